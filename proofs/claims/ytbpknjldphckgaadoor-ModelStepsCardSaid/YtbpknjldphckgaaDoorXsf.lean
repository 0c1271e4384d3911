/- What the row needs, part 6. -/
import Derived.Test.YtbpknjldphckgaaDoorProg
import Derived.Test.YtbpknjldphckgaaDoorXse
namespace Go.Proofs.YtbpknjldphckgaaDoor
open Go Go.SX Go.Proofs
set_option maxRecDepth 100000
set_option linter.unusedVariables false
def VCTryd148 (mq : Option Addr) (mn mc : Nat) (op pz st : Bool) (wq : Option Addr) (wn wc : Nat) (na da : ByteArray) (k : Int) (s : ByteArray) (dq : Option Addr) (dn dc : Nat) (N : Int) (kq : Option Addr) (kn kc : Nat) (nm fi : Int) (e : Int) (aq : Option Addr) (an ac : Nat) (z : Int) (nq : Option Addr) (nn nc : Nat) (lq : Option Addr) (ln lc : Nat) (re po : Bool) (w : World) (W1 : World) (W2 : World) (W3 : World) (W4 : World) (W5 : World) (KL : List (Nat × List (Nat × Value))) (SL : List Value) (R : Ending → World → Prop) : Prop :=
 ∃ (I0 : Int → Option Addr → Nat → Nat → Int → Option Addr → Nat → Nat → Option Addr → Nat → Nat → Bool → Bool → World → Prop), (∀ (i1 : Int) (q2 : Option Addr) (n3 n4 : Nat) (i5 : Int) (q6 : Option Addr) (n7 n8 : Nat) (q9 : Option Addr) (n10 n11 : Nat) (t12 t13 : Bool) (w14 : World), I0 i1 q2 n3 n4 i5 q6 n7 n8 q9 n10 n11 t12 t13 w14 → Known w14 [(w.heap.size, [((0 : Nat), Value.slice mq mn mc), ((1 : Nat), Value.bool op), ((2 : Nat), Value.bool pz), ((3 : Nat), Value.bool st), ((4 : Nat), Value.slice wq wn wc), ((5 : Nat), Value.string na), ((6 : Nat), Value.string da)]), (W1.heap.size, [((0 : Nat), Value.int IntKind.i64 k), ((1 : Nat), Value.string s), ((2 : Nat), Value.slice dq dn dc), ((3 : Nat), Value.int IntKind.i64 N), ((4 : Nat), Value.slice kq kn kc), ((5 : Nat), Value.int IntKind.i64 nm), ((6 : Nat), Value.int IntKind.u8 fi)]), (W2.heap.size, [((0 : Nat), Value.int IntKind.i64 e), ((1 : Nat), Value.slice aq an ac), ((2 : Nat), Value.int IntKind.i64 z), ((3 : Nat), Value.slice nq nn nc), ((4 : Nat), Value.slice lq ln lc), ((5 : Nat), Value.bool re), ((6 : Nat), Value.bool po)]), (W3.heap.size, [((0 : Nat), Value.int IntKind.i64 (0 : Int)), ((1 : Nat), Value.slice none (0 : Nat) (0 : Nat)), ((2 : Nat), Value.int IntKind.i64 (0 : Int)), ((3 : Nat), Value.slice none (0 : Nat) (0 : Nat)), ((4 : Nat), Value.slice none (0 : Nat) (0 : Nat)), ((5 : Nat), Value.bool false), ((6 : Nat), Value.bool false)]), (W4.heap.size, [((0 : Nat), Value.int IntKind.i64 i1), ((1 : Nat), Value.slice q2 n3 n4), ((2 : Nat), Value.int IntKind.i64 i5), ((3 : Nat), Value.slice q6 n7 n8), ((4 : Nat), Value.slice q9 n10 n11), ((5 : Nat), Value.bool t12), ((6 : Nat), Value.bool t13)])] → ∃ (I15 : Int → Option Addr → Nat → Nat → Int → Option Addr → Nat → Nat → Option Addr → Nat → Nat → Bool → Bool → World → Prop), (∀ (i16 : Int) (q17 : Option Addr) (n18 n19 : Nat) (i20 : Int) (q21 : Option Addr) (n22 n23 : Nat) (q24 : Option Addr) (n25 n26 : Nat) (t27 t28 : Bool) (w29 : World), I15 i16 q17 n18 n19 i20 q21 n22 n23 q24 n25 n26 t27 t28 w29 → Known w29 [(w.heap.size, [((0 : Nat), Value.slice mq mn mc), ((1 : Nat), Value.bool op), ((2 : Nat), Value.bool pz), ((3 : Nat), Value.bool st), ((4 : Nat), Value.slice wq wn wc), ((5 : Nat), Value.string na), ((6 : Nat), Value.string da)]), (W1.heap.size, [((0 : Nat), Value.int IntKind.i64 k), ((1 : Nat), Value.string s), ((2 : Nat), Value.slice dq dn dc), ((3 : Nat), Value.int IntKind.i64 N), ((4 : Nat), Value.slice kq kn kc), ((5 : Nat), Value.int IntKind.i64 nm), ((6 : Nat), Value.int IntKind.u8 fi)]), (W2.heap.size, [((0 : Nat), Value.int IntKind.i64 e), ((1 : Nat), Value.slice aq an ac), ((2 : Nat), Value.int IntKind.i64 z), ((3 : Nat), Value.slice nq nn nc), ((4 : Nat), Value.slice lq ln lc), ((5 : Nat), Value.bool re), ((6 : Nat), Value.bool po)]), (W3.heap.size, [((0 : Nat), Value.int IntKind.i64 (0 : Int)), ((1 : Nat), Value.slice none (0 : Nat) (0 : Nat)), ((2 : Nat), Value.int IntKind.i64 (0 : Int)), ((3 : Nat), Value.slice none (0 : Nat) (0 : Nat)), ((4 : Nat), Value.slice none (0 : Nat) (0 : Nat)), ((5 : Nat), Value.bool false), ((6 : Nat), Value.bool false)]), (W4.heap.size, [((0 : Nat), Value.int IntKind.i64 i16), ((1 : Nat), Value.slice q17 n18 n19), ((2 : Nat), Value.int IntKind.i64 i20), ((3 : Nat), Value.slice q21 n22 n23), ((4 : Nat), Value.slice q24 n25 n26), ((5 : Nat), Value.bool t27), ((6 : Nat), Value.bool t28)])] → ∃ (I30 : Int → Option Addr → Nat → Nat → Int → Option Addr → Nat → Nat → Option Addr → Nat → Nat → Bool → Bool → World → Prop), (∀ (i31 : Int) (q32 : Option Addr) (n33 n34 : Nat) (i35 : Int) (q36 : Option Addr) (n37 n38 : Nat) (q39 : Option Addr) (n40 n41 : Nat) (t42 t43 : Bool) (w44 : World), I30 i31 q32 n33 n34 i35 q36 n37 n38 q39 n40 n41 t42 t43 w44 → Known w44 [(w.heap.size, [((0 : Nat), Value.slice mq mn mc), ((1 : Nat), Value.bool op), ((2 : Nat), Value.bool pz), ((3 : Nat), Value.bool st), ((4 : Nat), Value.slice wq wn wc), ((5 : Nat), Value.string na), ((6 : Nat), Value.string da)]), (W1.heap.size, [((0 : Nat), Value.int IntKind.i64 k), ((1 : Nat), Value.string s), ((2 : Nat), Value.slice dq dn dc), ((3 : Nat), Value.int IntKind.i64 N), ((4 : Nat), Value.slice kq kn kc), ((5 : Nat), Value.int IntKind.i64 nm), ((6 : Nat), Value.int IntKind.u8 fi)]), (W2.heap.size, [((0 : Nat), Value.int IntKind.i64 e), ((1 : Nat), Value.slice aq an ac), ((2 : Nat), Value.int IntKind.i64 z), ((3 : Nat), Value.slice nq nn nc), ((4 : Nat), Value.slice lq ln lc), ((5 : Nat), Value.bool re), ((6 : Nat), Value.bool po)]), (W3.heap.size, [((0 : Nat), Value.int IntKind.i64 (0 : Int)), ((1 : Nat), Value.slice none (0 : Nat) (0 : Nat)), ((2 : Nat), Value.int IntKind.i64 (0 : Int)), ((3 : Nat), Value.slice none (0 : Nat) (0 : Nat)), ((4 : Nat), Value.slice none (0 : Nat) (0 : Nat)), ((5 : Nat), Value.bool false), ((6 : Nat), Value.bool false)]), (W4.heap.size, [((0 : Nat), Value.int IntKind.i64 i31), ((1 : Nat), Value.slice q32 n33 n34), ((2 : Nat), Value.int IntKind.i64 i35), ((3 : Nat), Value.slice q36 n37 n38), ((4 : Nat), Value.slice q39 n40 n41), ((5 : Nat), Value.bool t42), ((6 : Nat), Value.bool t43)])] → ∃ (I45 : Int → Option Addr → Nat → Nat → Int → Option Addr → Nat → Nat → Option Addr → Nat → Nat → Bool → Bool → World → Prop), (∀ (i46 : Int) (q47 : Option Addr) (n48 n49 : Nat) (i50 : Int) (q51 : Option Addr) (n52 n53 : Nat) (q54 : Option Addr) (n55 n56 : Nat) (t57 t58 : Bool) (w59 : World), I45 i46 q47 n48 n49 i50 q51 n52 n53 q54 n55 n56 t57 t58 w59 → Known w59 [(w.heap.size, [((0 : Nat), Value.slice mq mn mc), ((1 : Nat), Value.bool op), ((2 : Nat), Value.bool pz), ((3 : Nat), Value.bool st), ((4 : Nat), Value.slice wq wn wc), ((5 : Nat), Value.string na), ((6 : Nat), Value.string da)]), (W1.heap.size, [((0 : Nat), Value.int IntKind.i64 k), ((1 : Nat), Value.string s), ((2 : Nat), Value.slice dq dn dc), ((3 : Nat), Value.int IntKind.i64 N), ((4 : Nat), Value.slice kq kn kc), ((5 : Nat), Value.int IntKind.i64 nm), ((6 : Nat), Value.int IntKind.u8 fi)]), (W2.heap.size, [((0 : Nat), Value.int IntKind.i64 e), ((1 : Nat), Value.slice aq an ac), ((2 : Nat), Value.int IntKind.i64 z), ((3 : Nat), Value.slice nq nn nc), ((4 : Nat), Value.slice lq ln lc), ((5 : Nat), Value.bool re), ((6 : Nat), Value.bool po)]), (W3.heap.size, [((0 : Nat), Value.int IntKind.i64 (0 : Int)), ((1 : Nat), Value.slice none (0 : Nat) (0 : Nat)), ((2 : Nat), Value.int IntKind.i64 (0 : Int)), ((3 : Nat), Value.slice none (0 : Nat) (0 : Nat)), ((4 : Nat), Value.slice none (0 : Nat) (0 : Nat)), ((5 : Nat), Value.bool false), ((6 : Nat), Value.bool false)]), (W4.heap.size, [((0 : Nat), Value.int IntKind.i64 i46), ((1 : Nat), Value.slice q47 n48 n49), ((2 : Nat), Value.int IntKind.i64 i50), ((3 : Nat), Value.slice q51 n52 n53), ((4 : Nat), Value.slice q54 n55 n56), ((5 : Nat), Value.bool t57), ((6 : Nat), Value.bool t58)])] → Known (((((((w59.setCell { block := W3.heap.size, off := (0 : Nat) } (Value.int IntKind.i64 i46)).setCell { block := W3.heap.size, off := (1 : Nat) } (Value.slice q47 n48 n49)).setCell { block := W3.heap.size, off := (2 : Nat) } (Value.int IntKind.i64 i50)).setCell { block := W3.heap.size, off := (3 : Nat) } (Value.slice q51 n52 n53)).setCell { block := W3.heap.size, off := (4 : Nat) } (Value.slice q54 n55 n56)).setCell { block := W3.heap.size, off := (5 : Nat) } (Value.bool t57)).setCell { block := W3.heap.size, off := (6 : Nat) } (Value.bool t58)) [(w.heap.size, [((0 : Nat), Value.slice mq mn mc), ((1 : Nat), Value.bool op), ((2 : Nat), Value.bool pz), ((3 : Nat), Value.bool st), ((4 : Nat), Value.slice wq wn wc), ((5 : Nat), Value.string na), ((6 : Nat), Value.string da)]), (W1.heap.size, [((0 : Nat), Value.int IntKind.i64 k), ((1 : Nat), Value.string s), ((2 : Nat), Value.slice dq dn dc), ((3 : Nat), Value.int IntKind.i64 N), ((4 : Nat), Value.slice kq kn kc), ((5 : Nat), Value.int IntKind.i64 nm), ((6 : Nat), Value.int IntKind.u8 fi)]), (W2.heap.size, [((0 : Nat), Value.int IntKind.i64 e), ((1 : Nat), Value.slice aq an ac), ((2 : Nat), Value.int IntKind.i64 z), ((3 : Nat), Value.slice nq nn nc), ((4 : Nat), Value.slice lq ln lc), ((5 : Nat), Value.bool re), ((6 : Nat), Value.bool po)]), (W3.heap.size, [((0 : Nat), Value.int IntKind.i64 i46), ((1 : Nat), Value.slice q47 n48 n49), ((2 : Nat), Value.int IntKind.i64 i50), ((3 : Nat), Value.slice q51 n52 n53), ((4 : Nat), Value.slice q54 n55 n56), ((5 : Nat), Value.bool t57), ((6 : Nat), Value.bool t58)]), (W4.heap.size, [((0 : Nat), Value.int IntKind.i64 i46), ((1 : Nat), Value.slice q47 n48 n49), ((2 : Nat), Value.int IntKind.i64 i50), ((3 : Nat), Value.slice q51 n52 n53), ((4 : Nat), Value.slice q54 n55 n56), ((5 : Nat), Value.bool t57), ((6 : Nat), Value.bool t58)])] → R (Ending.returned (Value.agg #[Value.int IntKind.i64 i46, Value.slice q47 n48 n49, Value.int IntKind.i64 i50, Value.slice q51 n52 n53, Value.slice q54 n55 n56, Value.bool t57, Value.bool t58])) (((((((w59.setCell { block := W3.heap.size, off := (0 : Nat) } (Value.int IntKind.i64 i46)).setCell { block := W3.heap.size, off := (1 : Nat) } (Value.slice q47 n48 n49)).setCell { block := W3.heap.size, off := (2 : Nat) } (Value.int IntKind.i64 i50)).setCell { block := W3.heap.size, off := (3 : Nat) } (Value.slice q51 n52 n53)).setCell { block := W3.heap.size, off := (4 : Nat) } (Value.slice q54 n55 n56)).setCell { block := W3.heap.size, off := (5 : Nat) } (Value.bool t57)).setCell { block := W3.heap.size, off := (6 : Nat) } (Value.bool t58))) ∧ bif k == (2 : Int) then
 SameVals SL SL ∧ I45 i31 q32 n33 n34 i35 q36 n37 n38 lq ln lc t42 t43 (w44.setCell { block := W4.heap.size, off := (4 : Nat) } (Value.slice lq ln lc)) else
 bif k == (15 : Int) then
 SameVals SL SL ∧ I45 i31 q32 n33 n34 i35 q36 n37 n38 lq ln lc t42 t43 (w44.setCell { block := W4.heap.size, off := (4 : Nat) } (Value.slice lq ln lc)) else
 SameVals SL SL ∧ I45 i31 q32 n33 n34 i35 q36 n37 n38 q39 n40 n41 t42 t43 w44) ∧ bif k == (10 : Int) then
 Known w29 [(w.heap.size, [((0 : Nat), Value.slice mq mn mc), ((1 : Nat), Value.bool op), ((2 : Nat), Value.bool pz), ((3 : Nat), Value.bool st), ((4 : Nat), Value.slice wq wn wc), ((5 : Nat), Value.string na), ((6 : Nat), Value.string da)]), (W1.heap.size, [((0 : Nat), Value.int IntKind.i64 k), ((1 : Nat), Value.string s), ((2 : Nat), Value.slice dq dn dc), ((3 : Nat), Value.int IntKind.i64 N), ((4 : Nat), Value.slice kq kn kc), ((5 : Nat), Value.int IntKind.i64 nm), ((6 : Nat), Value.int IntKind.u8 fi)]), (W2.heap.size, [((0 : Nat), Value.int IntKind.i64 e), ((1 : Nat), Value.slice aq an ac), ((2 : Nat), Value.int IntKind.i64 z), ((3 : Nat), Value.slice nq nn nc), ((4 : Nat), Value.slice lq ln lc), ((5 : Nat), Value.bool re), ((6 : Nat), Value.bool po)]), (W3.heap.size, [((0 : Nat), Value.int IntKind.i64 (0 : Int)), ((1 : Nat), Value.slice none (0 : Nat) (0 : Nat)), ((2 : Nat), Value.int IntKind.i64 (0 : Int)), ((3 : Nat), Value.slice none (0 : Nat) (0 : Nat)), ((4 : Nat), Value.slice none (0 : Nat) (0 : Nat)), ((5 : Nat), Value.bool false), ((6 : Nat), Value.bool false)]), (W4.heap.size, [((0 : Nat), Value.int IntKind.i64 i16), ((1 : Nat), Value.slice q17 n18 n19), ((2 : Nat), Value.int IntKind.i64 i20), ((3 : Nat), Value.slice q21 n22 n23), ((4 : Nat), Value.slice q24 n25 n26), ((5 : Nat), Value.bool t27), ((6 : Nat), Value.bool t28)])] →
 Rets Tryd.prog (180 : Nat) #[Value.slice wq wn wc, Value.string s] w29 fun (v60 : Value) (w61 : World) => ∃ (q62 : Option Addr), ∃ (n63 : Nat), ∃ (n64 : Nat), v60 = Value.slice q62 n63 n64 ∧ Keeps w29 w61 [w.heap.size, W1.heap.size, W2.heap.size, W3.heap.size, W4.heap.size] ∧ SameVals SL SL ∧ I30 i16 q17 n18 n19 i20 q62 n63 n64 q24 n25 n26 t27 t28 (w61.setCell { block := W4.heap.size, off := (3 : Nat) } (Value.slice q62 n63 n64)) else
 SameVals SL SL ∧ I30 i16 q17 n18 n19 i20 q21 n22 n23 q24 n25 n26 t27 t28 w29) ∧ bif k == (8 : Int) then
 Known w14 [(w.heap.size, [((0 : Nat), Value.slice mq mn mc), ((1 : Nat), Value.bool op), ((2 : Nat), Value.bool pz), ((3 : Nat), Value.bool st), ((4 : Nat), Value.slice wq wn wc), ((5 : Nat), Value.string na), ((6 : Nat), Value.string da)]), (W1.heap.size, [((0 : Nat), Value.int IntKind.i64 k), ((1 : Nat), Value.string s), ((2 : Nat), Value.slice dq dn dc), ((3 : Nat), Value.int IntKind.i64 N), ((4 : Nat), Value.slice kq kn kc), ((5 : Nat), Value.int IntKind.i64 nm), ((6 : Nat), Value.int IntKind.u8 fi)]), (W2.heap.size, [((0 : Nat), Value.int IntKind.i64 e), ((1 : Nat), Value.slice aq an ac), ((2 : Nat), Value.int IntKind.i64 z), ((3 : Nat), Value.slice nq nn nc), ((4 : Nat), Value.slice lq ln lc), ((5 : Nat), Value.bool re), ((6 : Nat), Value.bool po)]), (W3.heap.size, [((0 : Nat), Value.int IntKind.i64 (0 : Int)), ((1 : Nat), Value.slice none (0 : Nat) (0 : Nat)), ((2 : Nat), Value.int IntKind.i64 (0 : Int)), ((3 : Nat), Value.slice none (0 : Nat) (0 : Nat)), ((4 : Nat), Value.slice none (0 : Nat) (0 : Nat)), ((5 : Nat), Value.bool false), ((6 : Nat), Value.bool false)]), (W4.heap.size, [((0 : Nat), Value.int IntKind.i64 i1), ((1 : Nat), Value.slice q2 n3 n4), ((2 : Nat), Value.int IntKind.i64 i5), ((3 : Nat), Value.slice q6 n7 n8), ((4 : Nat), Value.slice q9 n10 n11), ((5 : Nat), Value.bool t12), ((6 : Nat), Value.bool t13)])] →
 Rets Tryd.prog (87 : Nat) #[Value.slice wq wn wc, Value.string s] w14 fun (v65 : Value) (w66 : World) => ∃ (i67 : Int), v65 = Value.int IntKind.i64 i67 ∧ Keeps w14 w66 [w.heap.size, W1.heap.size, W2.heap.size, W3.heap.size, W4.heap.size] ∧ ∃ (I68 : Int → Option Addr → Nat → Nat → Int → Option Addr → Nat → Nat → Option Addr → Nat → Nat → Bool → Bool → World → Prop), (∀ (i69 : Int) (q70 : Option Addr) (n71 n72 : Nat) (i73 : Int) (q74 : Option Addr) (n75 n76 : Nat) (q77 : Option Addr) (n78 n79 : Nat) (t80 t81 : Bool) (w82 : World), I68 i69 q70 n71 n72 i73 q74 n75 n76 q77 n78 n79 t80 t81 w82 → Known w82 [(w.heap.size, [((0 : Nat), Value.slice mq mn mc), ((1 : Nat), Value.bool op), ((2 : Nat), Value.bool pz), ((3 : Nat), Value.bool st), ((4 : Nat), Value.slice wq wn wc), ((5 : Nat), Value.string na), ((6 : Nat), Value.string da)]), (W1.heap.size, [((0 : Nat), Value.int IntKind.i64 k), ((1 : Nat), Value.string s), ((2 : Nat), Value.slice dq dn dc), ((3 : Nat), Value.int IntKind.i64 N), ((4 : Nat), Value.slice kq kn kc), ((5 : Nat), Value.int IntKind.i64 nm), ((6 : Nat), Value.int IntKind.u8 fi)]), (W2.heap.size, [((0 : Nat), Value.int IntKind.i64 e), ((1 : Nat), Value.slice aq an ac), ((2 : Nat), Value.int IntKind.i64 z), ((3 : Nat), Value.slice nq nn nc), ((4 : Nat), Value.slice lq ln lc), ((5 : Nat), Value.bool re), ((6 : Nat), Value.bool po)]), (W3.heap.size, [((0 : Nat), Value.int IntKind.i64 (0 : Int)), ((1 : Nat), Value.slice none (0 : Nat) (0 : Nat)), ((2 : Nat), Value.int IntKind.i64 (0 : Int)), ((3 : Nat), Value.slice none (0 : Nat) (0 : Nat)), ((4 : Nat), Value.slice none (0 : Nat) (0 : Nat)), ((5 : Nat), Value.bool false), ((6 : Nat), Value.bool false)]), (W4.heap.size, [((0 : Nat), Value.int IntKind.i64 i69), ((1 : Nat), Value.slice q70 n71 n72), ((2 : Nat), Value.int IntKind.i64 i73), ((3 : Nat), Value.slice q74 n75 n76), ((4 : Nat), Value.slice q77 n78 n79), ((5 : Nat), Value.bool t80), ((6 : Nat), Value.bool t81)])] → bif decide (i67 ≥ (0 : Int)) then
 bif k == (9 : Int) then
 ((0 : Int) ≤ i67 ∧ i67 < (↑wn : Int)) ∧ SX.Ptr wq fun (a83 : Addr) => ∃ (q84 : Option Addr), ∃ (n85 : Nat), ∃ (n86 : Nat), w82.cell? ((a83.add (i67.toNat * (2 : Nat))).add (1 : Nat)) = some (Value.slice q84 n85 n86) ∧ SameVals SL SL ∧ I15 i69 q70 n71 n72 (↑n85 : Int) q74 n75 n76 q77 n78 n79 t80 t81 (w82.setCell { block := W4.heap.size, off := (2 : Nat) } (Value.int IntKind.i64 (↑n85 : Int))) else
 SameVals SL SL ∧ I15 i69 q70 n71 n72 i73 q74 n75 n76 q77 n78 n79 t80 t81 w82 else
 SameVals SL SL ∧ I15 i69 q70 n71 n72 i73 q74 n75 n76 q77 n78 n79 t80 t81 w82) ∧ bif decide (i67 ≥ (0 : Int)) then
 bif k == (8 : Int) then
 ((0 : Int) ≤ i67 ∧ i67 < (↑wn : Int)) ∧ SX.Ptr wq fun (a87 : Addr) => ∃ (q88 : Option Addr), ∃ (n89 : Nat), ∃ (n90 : Nat), w66.cell? ((a87.add (i67.toNat * (2 : Nat))).add (1 : Nat)) = some (Value.slice q88 n89 n90) ∧ SameVals SL SL ∧ I68 i1 q88 n89 n90 i5 q6 n7 n8 q9 n10 n11 t12 t13 (w66.setCell { block := W4.heap.size, off := (1 : Nat) } (Value.slice q88 n89 n90)) else
 SameVals SL SL ∧ I68 i1 q2 n3 n4 i5 q6 n7 n8 q9 n10 n11 t12 t13 w66 else
 SameVals SL SL ∧ I68 i1 q2 n3 n4 i5 q6 n7 n8 q9 n10 n11 t12 t13 w66 else
 bif k == (9 : Int) then
 Known w14 [(w.heap.size, [((0 : Nat), Value.slice mq mn mc), ((1 : Nat), Value.bool op), ((2 : Nat), Value.bool pz), ((3 : Nat), Value.bool st), ((4 : Nat), Value.slice wq wn wc), ((5 : Nat), Value.string na), ((6 : Nat), Value.string da)]), (W1.heap.size, [((0 : Nat), Value.int IntKind.i64 k), ((1 : Nat), Value.string s), ((2 : Nat), Value.slice dq dn dc), ((3 : Nat), Value.int IntKind.i64 N), ((4 : Nat), Value.slice kq kn kc), ((5 : Nat), Value.int IntKind.i64 nm), ((6 : Nat), Value.int IntKind.u8 fi)]), (W2.heap.size, [((0 : Nat), Value.int IntKind.i64 e), ((1 : Nat), Value.slice aq an ac), ((2 : Nat), Value.int IntKind.i64 z), ((3 : Nat), Value.slice nq nn nc), ((4 : Nat), Value.slice lq ln lc), ((5 : Nat), Value.bool re), ((6 : Nat), Value.bool po)]), (W3.heap.size, [((0 : Nat), Value.int IntKind.i64 (0 : Int)), ((1 : Nat), Value.slice none (0 : Nat) (0 : Nat)), ((2 : Nat), Value.int IntKind.i64 (0 : Int)), ((3 : Nat), Value.slice none (0 : Nat) (0 : Nat)), ((4 : Nat), Value.slice none (0 : Nat) (0 : Nat)), ((5 : Nat), Value.bool false), ((6 : Nat), Value.bool false)]), (W4.heap.size, [((0 : Nat), Value.int IntKind.i64 i1), ((1 : Nat), Value.slice q2 n3 n4), ((2 : Nat), Value.int IntKind.i64 i5), ((3 : Nat), Value.slice q6 n7 n8), ((4 : Nat), Value.slice q9 n10 n11), ((5 : Nat), Value.bool t12), ((6 : Nat), Value.bool t13)])] →
 Rets Tryd.prog (87 : Nat) #[Value.slice wq wn wc, Value.string s] w14 fun (v91 : Value) (w92 : World) => ∃ (i93 : Int), v91 = Value.int IntKind.i64 i93 ∧ Keeps w14 w92 [w.heap.size, W1.heap.size, W2.heap.size, W3.heap.size, W4.heap.size] ∧ ∃ (I94 : Int → Option Addr → Nat → Nat → Int → Option Addr → Nat → Nat → Option Addr → Nat → Nat → Bool → Bool → World → Prop), (∀ (i95 : Int) (q96 : Option Addr) (n97 n98 : Nat) (i99 : Int) (q100 : Option Addr) (n101 n102 : Nat) (q103 : Option Addr) (n104 n105 : Nat) (t106 t107 : Bool) (w108 : World), I94 i95 q96 n97 n98 i99 q100 n101 n102 q103 n104 n105 t106 t107 w108 → Known w108 [(w.heap.size, [((0 : Nat), Value.slice mq mn mc), ((1 : Nat), Value.bool op), ((2 : Nat), Value.bool pz), ((3 : Nat), Value.bool st), ((4 : Nat), Value.slice wq wn wc), ((5 : Nat), Value.string na), ((6 : Nat), Value.string da)]), (W1.heap.size, [((0 : Nat), Value.int IntKind.i64 k), ((1 : Nat), Value.string s), ((2 : Nat), Value.slice dq dn dc), ((3 : Nat), Value.int IntKind.i64 N), ((4 : Nat), Value.slice kq kn kc), ((5 : Nat), Value.int IntKind.i64 nm), ((6 : Nat), Value.int IntKind.u8 fi)]), (W2.heap.size, [((0 : Nat), Value.int IntKind.i64 e), ((1 : Nat), Value.slice aq an ac), ((2 : Nat), Value.int IntKind.i64 z), ((3 : Nat), Value.slice nq nn nc), ((4 : Nat), Value.slice lq ln lc), ((5 : Nat), Value.bool re), ((6 : Nat), Value.bool po)]), (W3.heap.size, [((0 : Nat), Value.int IntKind.i64 (0 : Int)), ((1 : Nat), Value.slice none (0 : Nat) (0 : Nat)), ((2 : Nat), Value.int IntKind.i64 (0 : Int)), ((3 : Nat), Value.slice none (0 : Nat) (0 : Nat)), ((4 : Nat), Value.slice none (0 : Nat) (0 : Nat)), ((5 : Nat), Value.bool false), ((6 : Nat), Value.bool false)]), (W4.heap.size, [((0 : Nat), Value.int IntKind.i64 i95), ((1 : Nat), Value.slice q96 n97 n98), ((2 : Nat), Value.int IntKind.i64 i99), ((3 : Nat), Value.slice q100 n101 n102), ((4 : Nat), Value.slice q103 n104 n105), ((5 : Nat), Value.bool t106), ((6 : Nat), Value.bool t107)])] → bif decide (i93 ≥ (0 : Int)) then
 bif k == (9 : Int) then
 ((0 : Int) ≤ i93 ∧ i93 < (↑wn : Int)) ∧ SX.Ptr wq fun (a109 : Addr) => ∃ (q110 : Option Addr), ∃ (n111 : Nat), ∃ (n112 : Nat), w108.cell? ((a109.add (i93.toNat * (2 : Nat))).add (1 : Nat)) = some (Value.slice q110 n111 n112) ∧ SameVals SL SL ∧ I15 i95 q96 n97 n98 (↑n111 : Int) q100 n101 n102 q103 n104 n105 t106 t107 (w108.setCell { block := W4.heap.size, off := (2 : Nat) } (Value.int IntKind.i64 (↑n111 : Int))) else
 SameVals SL SL ∧ I15 i95 q96 n97 n98 i99 q100 n101 n102 q103 n104 n105 t106 t107 w108 else
 SameVals SL SL ∧ I15 i95 q96 n97 n98 i99 q100 n101 n102 q103 n104 n105 t106 t107 w108) ∧ bif decide (i93 ≥ (0 : Int)) then
 bif k == (8 : Int) then
 ((0 : Int) ≤ i93 ∧ i93 < (↑wn : Int)) ∧ SX.Ptr wq fun (a113 : Addr) => ∃ (q114 : Option Addr), ∃ (n115 : Nat), ∃ (n116 : Nat), w92.cell? ((a113.add (i93.toNat * (2 : Nat))).add (1 : Nat)) = some (Value.slice q114 n115 n116) ∧ SameVals SL SL ∧ I94 i1 q114 n115 n116 i5 q6 n7 n8 q9 n10 n11 t12 t13 (w92.setCell { block := W4.heap.size, off := (1 : Nat) } (Value.slice q114 n115 n116)) else
 SameVals SL SL ∧ I94 i1 q2 n3 n4 i5 q6 n7 n8 q9 n10 n11 t12 t13 w92 else
 SameVals SL SL ∧ I94 i1 q2 n3 n4 i5 q6 n7 n8 q9 n10 n11 t12 t13 w92 else
 SameVals SL SL ∧ I15 i1 q2 n3 n4 i5 q6 n7 n8 q9 n10 n11 t12 t13 w14) ∧ bif e != (0 : Int) then
 Known ((((((((((((((W5.setCell { block := W4.heap.size, off := (0 : Nat) } (Value.int IntKind.i64 e)).setCell { block := W4.heap.size, off := (1 : Nat) } (Value.slice none (0 : Nat) (0 : Nat))).setCell { block := W4.heap.size, off := (2 : Nat) } (Value.int IntKind.i64 (0 : Int))).setCell { block := W4.heap.size, off := (3 : Nat) } (Value.slice none (0 : Nat) (0 : Nat))).setCell { block := W4.heap.size, off := (4 : Nat) } (Value.slice none (0 : Nat) (0 : Nat))).setCell { block := W4.heap.size, off := (5 : Nat) } (Value.bool re)).setCell { block := W4.heap.size, off := (6 : Nat) } (Value.bool po)).setCell { block := W3.heap.size, off := (0 : Nat) } (Value.int IntKind.i64 e)).setCell { block := W3.heap.size, off := (1 : Nat) } (Value.slice none (0 : Nat) (0 : Nat))).setCell { block := W3.heap.size, off := (2 : Nat) } (Value.int IntKind.i64 (0 : Int))).setCell { block := W3.heap.size, off := (3 : Nat) } (Value.slice none (0 : Nat) (0 : Nat))).setCell { block := W3.heap.size, off := (4 : Nat) } (Value.slice none (0 : Nat) (0 : Nat))).setCell { block := W3.heap.size, off := (5 : Nat) } (Value.bool re)).setCell { block := W3.heap.size, off := (6 : Nat) } (Value.bool po)) KL → R (Ending.returned (Value.agg #[Value.int IntKind.i64 e, Value.slice none (0 : Nat) (0 : Nat), Value.int IntKind.i64 (0 : Int), Value.slice none (0 : Nat) (0 : Nat), Value.slice none (0 : Nat) (0 : Nat), Value.bool re, Value.bool po])) ((((((((((((((W5.setCell { block := W4.heap.size, off := (0 : Nat) } (Value.int IntKind.i64 e)).setCell { block := W4.heap.size, off := (1 : Nat) } (Value.slice none (0 : Nat) (0 : Nat))).setCell { block := W4.heap.size, off := (2 : Nat) } (Value.int IntKind.i64 (0 : Int))).setCell { block := W4.heap.size, off := (3 : Nat) } (Value.slice none (0 : Nat) (0 : Nat))).setCell { block := W4.heap.size, off := (4 : Nat) } (Value.slice none (0 : Nat) (0 : Nat))).setCell { block := W4.heap.size, off := (5 : Nat) } (Value.bool re)).setCell { block := W4.heap.size, off := (6 : Nat) } (Value.bool po)).setCell { block := W3.heap.size, off := (0 : Nat) } (Value.int IntKind.i64 e)).setCell { block := W3.heap.size, off := (1 : Nat) } (Value.slice none (0 : Nat) (0 : Nat))).setCell { block := W3.heap.size, off := (2 : Nat) } (Value.int IntKind.i64 (0 : Int))).setCell { block := W3.heap.size, off := (3 : Nat) } (Value.slice none (0 : Nat) (0 : Nat))).setCell { block := W3.heap.size, off := (4 : Nat) } (Value.slice none (0 : Nat) (0 : Nat))).setCell { block := W3.heap.size, off := (5 : Nat) } (Value.bool re)).setCell { block := W3.heap.size, off := (6 : Nat) } (Value.bool po)) else
 bif re then
 Known ((((((((((((((W5.setCell { block := W4.heap.size, off := (0 : Nat) } (Value.int IntKind.i64 e)).setCell { block := W4.heap.size, off := (1 : Nat) } (Value.slice none (0 : Nat) (0 : Nat))).setCell { block := W4.heap.size, off := (2 : Nat) } (Value.int IntKind.i64 (0 : Int))).setCell { block := W4.heap.size, off := (3 : Nat) } (Value.slice none (0 : Nat) (0 : Nat))).setCell { block := W4.heap.size, off := (4 : Nat) } (Value.slice none (0 : Nat) (0 : Nat))).setCell { block := W4.heap.size, off := (5 : Nat) } (Value.bool re)).setCell { block := W4.heap.size, off := (6 : Nat) } (Value.bool po)).setCell { block := W3.heap.size, off := (0 : Nat) } (Value.int IntKind.i64 e)).setCell { block := W3.heap.size, off := (1 : Nat) } (Value.slice none (0 : Nat) (0 : Nat))).setCell { block := W3.heap.size, off := (2 : Nat) } (Value.int IntKind.i64 (0 : Int))).setCell { block := W3.heap.size, off := (3 : Nat) } (Value.slice none (0 : Nat) (0 : Nat))).setCell { block := W3.heap.size, off := (4 : Nat) } (Value.slice none (0 : Nat) (0 : Nat))).setCell { block := W3.heap.size, off := (5 : Nat) } (Value.bool re)).setCell { block := W3.heap.size, off := (6 : Nat) } (Value.bool po)) KL → R (Ending.returned (Value.agg #[Value.int IntKind.i64 e, Value.slice none (0 : Nat) (0 : Nat), Value.int IntKind.i64 (0 : Int), Value.slice none (0 : Nat) (0 : Nat), Value.slice none (0 : Nat) (0 : Nat), Value.bool re, Value.bool po])) ((((((((((((((W5.setCell { block := W4.heap.size, off := (0 : Nat) } (Value.int IntKind.i64 e)).setCell { block := W4.heap.size, off := (1 : Nat) } (Value.slice none (0 : Nat) (0 : Nat))).setCell { block := W4.heap.size, off := (2 : Nat) } (Value.int IntKind.i64 (0 : Int))).setCell { block := W4.heap.size, off := (3 : Nat) } (Value.slice none (0 : Nat) (0 : Nat))).setCell { block := W4.heap.size, off := (4 : Nat) } (Value.slice none (0 : Nat) (0 : Nat))).setCell { block := W4.heap.size, off := (5 : Nat) } (Value.bool re)).setCell { block := W4.heap.size, off := (6 : Nat) } (Value.bool po)).setCell { block := W3.heap.size, off := (0 : Nat) } (Value.int IntKind.i64 e)).setCell { block := W3.heap.size, off := (1 : Nat) } (Value.slice none (0 : Nat) (0 : Nat))).setCell { block := W3.heap.size, off := (2 : Nat) } (Value.int IntKind.i64 (0 : Int))).setCell { block := W3.heap.size, off := (3 : Nat) } (Value.slice none (0 : Nat) (0 : Nat))).setCell { block := W3.heap.size, off := (4 : Nat) } (Value.slice none (0 : Nat) (0 : Nat))).setCell { block := W3.heap.size, off := (5 : Nat) } (Value.bool re)).setCell { block := W3.heap.size, off := (6 : Nat) } (Value.bool po)) else
 SameVals SL SL ∧ I0 e none (0 : Nat) (0 : Nat) (0 : Int) none (0 : Nat) (0 : Nat) none (0 : Nat) (0 : Nat) re po (((((((W5.setCell { block := W4.heap.size, off := (0 : Nat) } (Value.int IntKind.i64 e)).setCell { block := W4.heap.size, off := (1 : Nat) } (Value.slice none (0 : Nat) (0 : Nat))).setCell { block := W4.heap.size, off := (2 : Nat) } (Value.int IntKind.i64 (0 : Int))).setCell { block := W4.heap.size, off := (3 : Nat) } (Value.slice none (0 : Nat) (0 : Nat))).setCell { block := W4.heap.size, off := (4 : Nat) } (Value.slice none (0 : Nat) (0 : Nat))).setCell { block := W4.heap.size, off := (5 : Nat) } (Value.bool re)).setCell { block := W4.heap.size, off := (6 : Nat) } (Value.bool po))
theorem vcTryd148 (mq : Option Addr) (mn mc : Nat) (op pz st : Bool) (wq : Option Addr) (wn wc : Nat) (na da : ByteArray) (k : Int) (s : ByteArray) (dq : Option Addr) (dn dc : Nat) (N : Int) (kq : Option Addr) (kn kc : Nat) (nm fi : Int) (e : Int) (aq : Option Addr) (an ac : Nat) (z : Int) (nq : Option Addr) (nn nc : Nat) (lq : Option Addr) (ln lc : Nat) (re po : Bool) (w : World) (R : Ending → World → Prop) : SX.vcFn Tryd.prog [(1000014, ⟨[], [7, 6], [(4, 0, .int .i64), (4, 1, .slice), (4, 2, .int .i64), (4, 3, .slice), (4, 4, .slice), (4, 5, .bool), (4, 6, .bool)]⟩), (1000012, ⟨[], [4, 5, 7, 6], [(4, 0, .int .i64), (4, 1, .slice), (4, 2, .int .i64), (4, 3, .slice), (4, 4, .slice), (4, 5, .bool), (4, 6, .bool)]⟩), (1000010, ⟨[], [3, 4, 5, 7, 6], [(4, 0, .int .i64), (4, 1, .slice), (4, 2, .int .i64), (4, 3, .slice), (4, 4, .slice), (4, 5, .bool), (4, 6, .bool)]⟩), (1000008, ⟨[], [8, 3, 4, 5, 7, 6], [(4, 0, .int .i64), (4, 1, .slice), (4, 2, .int .i64), (4, 3, .slice), (4, 4, .slice), (4, 5, .bool), (4, 6, .bool)]⟩), (1000004, ⟨[], [3, 4, 5, 7, 6], [(4, 0, .int .i64), (4, 1, .slice), (4, 2, .int .i64), (4, 3, .slice), (4, 4, .slice), (4, 5, .bool), (4, 6, .bool)]⟩)] Tryd.f148 [.v (.agg #[.slice mq mn mc, .bool op, .bool pz, .bool st, .slice wq wn wc, .string na, .string da]), .v (.agg #[.int .i64 k, .string s, .slice dq dn dc, .int .i64 N, .slice kq kn kc, .int .i64 nm, .int .u8 fi]), .v (.agg #[.int .i64 e, .slice aq an ac, .int .i64 z, .slice nq nn nc, .slice lq ln lc, .bool re, .bool po])] [] w R =
 VCTryd148 mq mn mc op pz st wq wn wc na da k s dq dn dc N kq kn kc nm fi e aq an ac z nq nn nc lq ln lc re po w (w.alloc (Obj.cells #[Value.slice mq mn mc, Value.bool op, Value.bool pz, Value.bool st, Value.slice wq wn wc, Value.string na, Value.string da] (136 : Nat))) ((w.alloc (Obj.cells #[Value.slice mq mn mc, Value.bool op, Value.bool pz, Value.bool st, Value.slice wq wn wc, Value.string na, Value.string da] (136 : Nat))).alloc (Obj.cells #[Value.int IntKind.i64 k, Value.string s, Value.slice dq dn dc, Value.int IntKind.i64 N, Value.slice kq kn kc, Value.int IntKind.i64 nm, Value.int IntKind.u8 fi] (124 : Nat))) (((w.alloc (Obj.cells #[Value.slice mq mn mc, Value.bool op, Value.bool pz, Value.bool st, Value.slice wq wn wc, Value.string na, Value.string da] (136 : Nat))).alloc (Obj.cells #[Value.int IntKind.i64 k, Value.string s, Value.slice dq dn dc, Value.int IntKind.i64 N, Value.slice kq kn kc, Value.int IntKind.i64 nm, Value.int IntKind.u8 fi] (124 : Nat))).alloc (Obj.cells #[Value.int IntKind.i64 e, Value.slice aq an ac, Value.int IntKind.i64 z, Value.slice nq nn nc, Value.slice lq ln lc, Value.bool re, Value.bool po] (138 : Nat))) ((((w.alloc (Obj.cells #[Value.slice mq mn mc, Value.bool op, Value.bool pz, Value.bool st, Value.slice wq wn wc, Value.string na, Value.string da] (136 : Nat))).alloc (Obj.cells #[Value.int IntKind.i64 k, Value.string s, Value.slice dq dn dc, Value.int IntKind.i64 N, Value.slice kq kn kc, Value.int IntKind.i64 nm, Value.int IntKind.u8 fi] (124 : Nat))).alloc (Obj.cells #[Value.int IntKind.i64 e, Value.slice aq an ac, Value.int IntKind.i64 z, Value.slice nq nn nc, Value.slice lq ln lc, Value.bool re, Value.bool po] (138 : Nat))).alloc (Obj.cells #[Value.int IntKind.i64 (0 : Int), Value.slice none (0 : Nat) (0 : Nat), Value.int IntKind.i64 (0 : Int), Value.slice none (0 : Nat) (0 : Nat), Value.slice none (0 : Nat) (0 : Nat), Value.bool false, Value.bool false] (138 : Nat))) (((((w.alloc (Obj.cells #[Value.slice mq mn mc, Value.bool op, Value.bool pz, Value.bool st, Value.slice wq wn wc, Value.string na, Value.string da] (136 : Nat))).alloc (Obj.cells #[Value.int IntKind.i64 k, Value.string s, Value.slice dq dn dc, Value.int IntKind.i64 N, Value.slice kq kn kc, Value.int IntKind.i64 nm, Value.int IntKind.u8 fi] (124 : Nat))).alloc (Obj.cells #[Value.int IntKind.i64 e, Value.slice aq an ac, Value.int IntKind.i64 z, Value.slice nq nn nc, Value.slice lq ln lc, Value.bool re, Value.bool po] (138 : Nat))).alloc (Obj.cells #[Value.int IntKind.i64 (0 : Int), Value.slice none (0 : Nat) (0 : Nat), Value.int IntKind.i64 (0 : Int), Value.slice none (0 : Nat) (0 : Nat), Value.slice none (0 : Nat) (0 : Nat), Value.bool false, Value.bool false] (138 : Nat))).alloc (Obj.cells #[Value.int IntKind.i64 (0 : Int), Value.slice none (0 : Nat) (0 : Nat), Value.int IntKind.i64 (0 : Int), Value.slice none (0 : Nat) (0 : Nat), Value.slice none (0 : Nat) (0 : Nat), Value.bool false, Value.bool false] (138 : Nat))) [(w.heap.size, [((0 : Nat), Value.slice mq mn mc), ((1 : Nat), Value.bool op), ((2 : Nat), Value.bool pz), ((3 : Nat), Value.bool st), ((4 : Nat), Value.slice wq wn wc), ((5 : Nat), Value.string na), ((6 : Nat), Value.string da)]), ((w.alloc (Obj.cells #[Value.slice mq mn mc, Value.bool op, Value.bool pz, Value.bool st, Value.slice wq wn wc, Value.string na, Value.string da] (136 : Nat))).heap.size, [((0 : Nat), Value.int IntKind.i64 k), ((1 : Nat), Value.string s), ((2 : Nat), Value.slice dq dn dc), ((3 : Nat), Value.int IntKind.i64 N), ((4 : Nat), Value.slice kq kn kc), ((5 : Nat), Value.int IntKind.i64 nm), ((6 : Nat), Value.int IntKind.u8 fi)]), (((w.alloc (Obj.cells #[Value.slice mq mn mc, Value.bool op, Value.bool pz, Value.bool st, Value.slice wq wn wc, Value.string na, Value.string da] (136 : Nat))).alloc (Obj.cells #[Value.int IntKind.i64 k, Value.string s, Value.slice dq dn dc, Value.int IntKind.i64 N, Value.slice kq kn kc, Value.int IntKind.i64 nm, Value.int IntKind.u8 fi] (124 : Nat))).heap.size, [((0 : Nat), Value.int IntKind.i64 e), ((1 : Nat), Value.slice aq an ac), ((2 : Nat), Value.int IntKind.i64 z), ((3 : Nat), Value.slice nq nn nc), ((4 : Nat), Value.slice lq ln lc), ((5 : Nat), Value.bool re), ((6 : Nat), Value.bool po)]), ((((w.alloc (Obj.cells #[Value.slice mq mn mc, Value.bool op, Value.bool pz, Value.bool st, Value.slice wq wn wc, Value.string na, Value.string da] (136 : Nat))).alloc (Obj.cells #[Value.int IntKind.i64 k, Value.string s, Value.slice dq dn dc, Value.int IntKind.i64 N, Value.slice kq kn kc, Value.int IntKind.i64 nm, Value.int IntKind.u8 fi] (124 : Nat))).alloc (Obj.cells #[Value.int IntKind.i64 e, Value.slice aq an ac, Value.int IntKind.i64 z, Value.slice nq nn nc, Value.slice lq ln lc, Value.bool re, Value.bool po] (138 : Nat))).heap.size, [((0 : Nat), Value.int IntKind.i64 e), ((1 : Nat), Value.slice none (0 : Nat) (0 : Nat)), ((2 : Nat), Value.int IntKind.i64 (0 : Int)), ((3 : Nat), Value.slice none (0 : Nat) (0 : Nat)), ((4 : Nat), Value.slice none (0 : Nat) (0 : Nat)), ((5 : Nat), Value.bool re), ((6 : Nat), Value.bool po)]), (((((w.alloc (Obj.cells #[Value.slice mq mn mc, Value.bool op, Value.bool pz, Value.bool st, Value.slice wq wn wc, Value.string na, Value.string da] (136 : Nat))).alloc (Obj.cells #[Value.int IntKind.i64 k, Value.string s, Value.slice dq dn dc, Value.int IntKind.i64 N, Value.slice kq kn kc, Value.int IntKind.i64 nm, Value.int IntKind.u8 fi] (124 : Nat))).alloc (Obj.cells #[Value.int IntKind.i64 e, Value.slice aq an ac, Value.int IntKind.i64 z, Value.slice nq nn nc, Value.slice lq ln lc, Value.bool re, Value.bool po] (138 : Nat))).alloc (Obj.cells #[Value.int IntKind.i64 (0 : Int), Value.slice none (0 : Nat) (0 : Nat), Value.int IntKind.i64 (0 : Int), Value.slice none (0 : Nat) (0 : Nat), Value.slice none (0 : Nat) (0 : Nat), Value.bool false, Value.bool false] (138 : Nat))).heap.size, [((0 : Nat), Value.int IntKind.i64 e), ((1 : Nat), Value.slice none (0 : Nat) (0 : Nat)), ((2 : Nat), Value.int IntKind.i64 (0 : Int)), ((3 : Nat), Value.slice none (0 : Nat) (0 : Nat)), ((4 : Nat), Value.slice none (0 : Nat) (0 : Nat)), ((5 : Nat), Value.bool re), ((6 : Nat), Value.bool po)])] [Value.slice mq mn mc, Value.bool op, Value.bool pz, Value.bool st, Value.slice wq wn wc, Value.string na, Value.string da, Value.int IntKind.i64 k, Value.string s, Value.slice dq dn dc, Value.int IntKind.i64 N, Value.slice kq kn kc, Value.int IntKind.i64 nm, Value.int IntKind.u8 fi, Value.int IntKind.i64 e, Value.slice aq an ac, Value.int IntKind.i64 z, Value.slice nq nn nc, Value.slice lq ln lc, Value.bool re, Value.bool po, Value.int IntKind.i64 (0 : Int), Value.slice none (0 : Nat) (0 : Nat), Value.int IntKind.i64 (0 : Int), Value.slice none (0 : Nat) (0 : Nat), Value.slice none (0 : Nat) (0 : Nat), Value.bool false, Value.bool false] R := by kernel_rfl
def VCTryd100 (mq : Option Addr) (mn mc : Nat) (op pz st : Bool) (wq : Option Addr) (wn wc : Nat) (na da : ByteArray) (k : Int) (s : ByteArray) (dq : Option Addr) (dn dc : Nat) (N : Int) (kq : Option Addr) (kn kc : Nat) (nm fi : Int) (e : Int) (aq : Option Addr) (an ac : Nat) (z : Int) (nq : Option Addr) (nn nc : Nat) (lq : Option Addr) (ln lc : Nat) (re po : Bool) (w : World) (W1 : World) (W2 : World) (W3 : World) (W4 : World) (W5 : World) (KL : List (Nat × List (Nat × Value))) (SL : List Value) (R : Ending → World → Prop) : Prop :=
 Known ((((((((W5.setCell { block := W4.heap.size, off := (0 : Nat) } (Value.slice mq mn mc)).setCell { block := W4.heap.size, off := (1 : Nat) } (Value.bool op)).setCell { block := W4.heap.size, off := (2 : Nat) } (Value.bool pz)).setCell { block := W4.heap.size, off := (3 : Nat) } (Value.bool st)).setCell { block := W4.heap.size, off := (4 : Nat) } (Value.slice wq wn wc)).setCell { block := W4.heap.size, off := (5 : Nat) } (Value.string na)).setCell { block := W4.heap.size, off := (6 : Nat) } (Value.string da)).setCell { block := W4.heap.size, off := (2 : Nat) } (Value.bool po)) KL →
 Rets Tryd.prog (151 : Nat) #[Value.agg #[Value.slice mq mn mc, Value.bool op, Value.bool pz, Value.bool st, Value.slice wq wn wc, Value.string na, Value.string da], Value.agg #[Value.int IntKind.i64 k, Value.string s, Value.slice dq dn dc, Value.int IntKind.i64 N, Value.slice kq kn kc, Value.int IntKind.i64 nm, Value.int IntKind.u8 fi], Value.agg #[Value.int IntKind.i64 e, Value.slice aq an ac, Value.int IntKind.i64 z, Value.slice nq nn nc, Value.slice lq ln lc, Value.bool re, Value.bool po]] ((((((((W5.setCell { block := W4.heap.size, off := (0 : Nat) } (Value.slice mq mn mc)).setCell { block := W4.heap.size, off := (1 : Nat) } (Value.bool op)).setCell { block := W4.heap.size, off := (2 : Nat) } (Value.bool pz)).setCell { block := W4.heap.size, off := (3 : Nat) } (Value.bool st)).setCell { block := W4.heap.size, off := (4 : Nat) } (Value.slice wq wn wc)).setCell { block := W4.heap.size, off := (5 : Nat) } (Value.string na)).setCell { block := W4.heap.size, off := (6 : Nat) } (Value.string da)).setCell { block := W4.heap.size, off := (2 : Nat) } (Value.bool po)) fun (v0 : Value) (w1 : World) => ∃ (t2 : Bool), v0 = Value.bool t2 ∧ Keeps ((((((((W5.setCell { block := W4.heap.size, off := (0 : Nat) } (Value.slice mq mn mc)).setCell { block := W4.heap.size, off := (1 : Nat) } (Value.bool op)).setCell { block := W4.heap.size, off := (2 : Nat) } (Value.bool pz)).setCell { block := W4.heap.size, off := (3 : Nat) } (Value.bool st)).setCell { block := W4.heap.size, off := (4 : Nat) } (Value.slice wq wn wc)).setCell { block := W4.heap.size, off := (5 : Nat) } (Value.string na)).setCell { block := W4.heap.size, off := (6 : Nat) } (Value.string da)).setCell { block := W4.heap.size, off := (2 : Nat) } (Value.bool po)) w1 [w.heap.size, W1.heap.size, W2.heap.size, W3.heap.size, W4.heap.size] ∧ ∃ (I3 : Option Addr → Nat → Nat → Bool → Bool → Bool → Option Addr → Nat → Nat → ByteArray → ByteArray → World → Prop), (∀ (q4 : Option Addr) (n5 n6 : Nat) (t7 t8 t9 : Bool) (q10 : Option Addr) (n11 n12 : Nat) (s13 s14 : ByteArray) (w15 : World), I3 q4 n5 n6 t7 t8 t9 q10 n11 n12 s13 s14 w15 → Known w15 [(w.heap.size, [((0 : Nat), Value.slice mq mn mc), ((1 : Nat), Value.bool op), ((2 : Nat), Value.bool pz), ((3 : Nat), Value.bool st), ((4 : Nat), Value.slice wq wn wc), ((5 : Nat), Value.string na), ((6 : Nat), Value.string da)]), (W1.heap.size, [((0 : Nat), Value.int IntKind.i64 k), ((1 : Nat), Value.string s), ((2 : Nat), Value.slice dq dn dc), ((3 : Nat), Value.int IntKind.i64 N), ((4 : Nat), Value.slice kq kn kc), ((5 : Nat), Value.int IntKind.i64 nm), ((6 : Nat), Value.int IntKind.u8 fi)]), (W2.heap.size, [((0 : Nat), Value.int IntKind.i64 e), ((1 : Nat), Value.slice aq an ac), ((2 : Nat), Value.int IntKind.i64 z), ((3 : Nat), Value.slice nq nn nc), ((4 : Nat), Value.slice lq ln lc), ((5 : Nat), Value.bool re), ((6 : Nat), Value.bool po)]), (W3.heap.size, [((0 : Nat), Value.slice none (0 : Nat) (0 : Nat)), ((1 : Nat), Value.bool false), ((2 : Nat), Value.bool false), ((3 : Nat), Value.bool false), ((4 : Nat), Value.slice none (0 : Nat) (0 : Nat)), ((5 : Nat), Value.string { data := #[] }), ((6 : Nat), Value.string { data := #[] })]), (W4.heap.size, [((0 : Nat), Value.slice q4 n5 n6), ((1 : Nat), Value.bool t7), ((2 : Nat), Value.bool t8), ((3 : Nat), Value.bool t9), ((4 : Nat), Value.slice q10 n11 n12), ((5 : Nat), Value.string s13), ((6 : Nat), Value.string s14)])] → ∃ (I16 : Option Addr → Nat → Nat → Bool → Bool → Bool → Option Addr → Nat → Nat → ByteArray → ByteArray → World → Prop), (∀ (q17 : Option Addr) (n18 n19 : Nat) (t20 t21 t22 : Bool) (q23 : Option Addr) (n24 n25 : Nat) (s26 s27 : ByteArray) (w28 : World), I16 q17 n18 n19 t20 t21 t22 q23 n24 n25 s26 s27 w28 → Known w28 [(w.heap.size, [((0 : Nat), Value.slice mq mn mc), ((1 : Nat), Value.bool op), ((2 : Nat), Value.bool pz), ((3 : Nat), Value.bool st), ((4 : Nat), Value.slice wq wn wc), ((5 : Nat), Value.string na), ((6 : Nat), Value.string da)]), (W1.heap.size, [((0 : Nat), Value.int IntKind.i64 k), ((1 : Nat), Value.string s), ((2 : Nat), Value.slice dq dn dc), ((3 : Nat), Value.int IntKind.i64 N), ((4 : Nat), Value.slice kq kn kc), ((5 : Nat), Value.int IntKind.i64 nm), ((6 : Nat), Value.int IntKind.u8 fi)]), (W2.heap.size, [((0 : Nat), Value.int IntKind.i64 e), ((1 : Nat), Value.slice aq an ac), ((2 : Nat), Value.int IntKind.i64 z), ((3 : Nat), Value.slice nq nn nc), ((4 : Nat), Value.slice lq ln lc), ((5 : Nat), Value.bool re), ((6 : Nat), Value.bool po)]), (W3.heap.size, [((0 : Nat), Value.slice none (0 : Nat) (0 : Nat)), ((1 : Nat), Value.bool false), ((2 : Nat), Value.bool false), ((3 : Nat), Value.bool false), ((4 : Nat), Value.slice none (0 : Nat) (0 : Nat)), ((5 : Nat), Value.string { data := #[] }), ((6 : Nat), Value.string { data := #[] })]), (W4.heap.size, [((0 : Nat), Value.slice q17 n18 n19), ((1 : Nat), Value.bool t20), ((2 : Nat), Value.bool t21), ((3 : Nat), Value.bool t22), ((4 : Nat), Value.slice q23 n24 n25), ((5 : Nat), Value.string s26), ((6 : Nat), Value.string s27)])] → ∃ (I29 : Option Addr → Nat → Nat → Bool → Bool → Bool → Option Addr → Nat → Nat → ByteArray → ByteArray → World → Prop), (∀ (q30 : Option Addr) (n31 n32 : Nat) (t33 t34 t35 : Bool) (q36 : Option Addr) (n37 n38 : Nat) (s39 s40 : ByteArray) (w41 : World), I29 q30 n31 n32 t33 t34 t35 q36 n37 n38 s39 s40 w41 → Known w41 [(w.heap.size, [((0 : Nat), Value.slice mq mn mc), ((1 : Nat), Value.bool op), ((2 : Nat), Value.bool pz), ((3 : Nat), Value.bool st), ((4 : Nat), Value.slice wq wn wc), ((5 : Nat), Value.string na), ((6 : Nat), Value.string da)]), (W1.heap.size, [((0 : Nat), Value.int IntKind.i64 k), ((1 : Nat), Value.string s), ((2 : Nat), Value.slice dq dn dc), ((3 : Nat), Value.int IntKind.i64 N), ((4 : Nat), Value.slice kq kn kc), ((5 : Nat), Value.int IntKind.i64 nm), ((6 : Nat), Value.int IntKind.u8 fi)]), (W2.heap.size, [((0 : Nat), Value.int IntKind.i64 e), ((1 : Nat), Value.slice aq an ac), ((2 : Nat), Value.int IntKind.i64 z), ((3 : Nat), Value.slice nq nn nc), ((4 : Nat), Value.slice lq ln lc), ((5 : Nat), Value.bool re), ((6 : Nat), Value.bool po)]), (W3.heap.size, [((0 : Nat), Value.slice none (0 : Nat) (0 : Nat)), ((1 : Nat), Value.bool false), ((2 : Nat), Value.bool false), ((3 : Nat), Value.bool false), ((4 : Nat), Value.slice none (0 : Nat) (0 : Nat)), ((5 : Nat), Value.string { data := #[] }), ((6 : Nat), Value.string { data := #[] })]), (W4.heap.size, [((0 : Nat), Value.slice q30 n31 n32), ((1 : Nat), Value.bool t33), ((2 : Nat), Value.bool t34), ((3 : Nat), Value.bool t35), ((4 : Nat), Value.slice q36 n37 n38), ((5 : Nat), Value.string s39), ((6 : Nat), Value.string s40)])] → bif e == (0 : Int) then
 Known w41 [(w.heap.size, [((0 : Nat), Value.slice mq mn mc), ((1 : Nat), Value.bool op), ((2 : Nat), Value.bool pz), ((3 : Nat), Value.bool st), ((4 : Nat), Value.slice wq wn wc), ((5 : Nat), Value.string na), ((6 : Nat), Value.string da)]), (W1.heap.size, [((0 : Nat), Value.int IntKind.i64 k), ((1 : Nat), Value.string s), ((2 : Nat), Value.slice dq dn dc), ((3 : Nat), Value.int IntKind.i64 N), ((4 : Nat), Value.slice kq kn kc), ((5 : Nat), Value.int IntKind.i64 nm), ((6 : Nat), Value.int IntKind.u8 fi)]), (W2.heap.size, [((0 : Nat), Value.int IntKind.i64 e), ((1 : Nat), Value.slice aq an ac), ((2 : Nat), Value.int IntKind.i64 z), ((3 : Nat), Value.slice nq nn nc), ((4 : Nat), Value.slice lq ln lc), ((5 : Nat), Value.bool re), ((6 : Nat), Value.bool po)]), (W3.heap.size, [((0 : Nat), Value.slice none (0 : Nat) (0 : Nat)), ((1 : Nat), Value.bool false), ((2 : Nat), Value.bool false), ((3 : Nat), Value.bool false), ((4 : Nat), Value.slice none (0 : Nat) (0 : Nat)), ((5 : Nat), Value.string { data := #[] }), ((6 : Nat), Value.string { data := #[] })]), (W4.heap.size, [((0 : Nat), Value.slice q30 n31 n32), ((1 : Nat), Value.bool t33), ((2 : Nat), Value.bool t34), ((3 : Nat), Value.bool t35), ((4 : Nat), Value.slice q36 n37 n38), ((5 : Nat), Value.string s39), ((6 : Nat), Value.string s40)])] →
 Rets Tryd.prog (152 : Nat) #[Value.agg #[Value.slice mq mn mc, Value.bool op, Value.bool pz, Value.bool st, Value.slice wq wn wc, Value.string na, Value.string da], Value.agg #[Value.slice q30 n31 n32, Value.bool t33, Value.bool t34, Value.bool t35, Value.slice q36 n37 n38, Value.string s39, Value.string s40], Value.agg #[Value.int IntKind.i64 k, Value.string s, Value.slice dq dn dc, Value.int IntKind.i64 N, Value.slice kq kn kc, Value.int IntKind.i64 nm, Value.int IntKind.u8 fi], Value.agg #[Value.int IntKind.i64 e, Value.slice aq an ac, Value.int IntKind.i64 z, Value.slice nq nn nc, Value.slice lq ln lc, Value.bool re, Value.bool po]] w41 fun (v42 : Value) (w43 : World) => ∃ (q44 : Option Addr), ∃ (n45 : Nat), ∃ (n46 : Nat), ∃ (t47 : Bool), ∃ (t48 : Bool), ∃ (t49 : Bool), ∃ (q50 : Option Addr), ∃ (n51 : Nat), ∃ (n52 : Nat), ∃ (s53 : ByteArray), ∃ (s54 : ByteArray), v42 = Value.agg #[Value.slice q44 n45 n46, Value.bool t47, Value.bool t48, Value.bool t49, Value.slice q50 n51 n52, Value.string s53, Value.string s54] ∧ Keeps w41 w43 [w.heap.size, W1.heap.size, W2.heap.size, W3.heap.size, W4.heap.size] ∧ (Known (((((((w43.setCell { block := W3.heap.size, off := (0 : Nat) } (Value.slice q44 n45 n46)).setCell { block := W3.heap.size, off := (1 : Nat) } (Value.bool t47)).setCell { block := W3.heap.size, off := (2 : Nat) } (Value.bool t48)).setCell { block := W3.heap.size, off := (3 : Nat) } (Value.bool t49)).setCell { block := W3.heap.size, off := (4 : Nat) } (Value.slice q50 n51 n52)).setCell { block := W3.heap.size, off := (5 : Nat) } (Value.string s53)).setCell { block := W3.heap.size, off := (6 : Nat) } (Value.string s54)) [(w.heap.size, [((0 : Nat), Value.slice mq mn mc), ((1 : Nat), Value.bool op), ((2 : Nat), Value.bool pz), ((3 : Nat), Value.bool st), ((4 : Nat), Value.slice wq wn wc), ((5 : Nat), Value.string na), ((6 : Nat), Value.string da)]), (W1.heap.size, [((0 : Nat), Value.int IntKind.i64 k), ((1 : Nat), Value.string s), ((2 : Nat), Value.slice dq dn dc), ((3 : Nat), Value.int IntKind.i64 N), ((4 : Nat), Value.slice kq kn kc), ((5 : Nat), Value.int IntKind.i64 nm), ((6 : Nat), Value.int IntKind.u8 fi)]), (W2.heap.size, [((0 : Nat), Value.int IntKind.i64 e), ((1 : Nat), Value.slice aq an ac), ((2 : Nat), Value.int IntKind.i64 z), ((3 : Nat), Value.slice nq nn nc), ((4 : Nat), Value.slice lq ln lc), ((5 : Nat), Value.bool re), ((6 : Nat), Value.bool po)]), (W3.heap.size, [((0 : Nat), Value.slice q44 n45 n46), ((1 : Nat), Value.bool t47), ((2 : Nat), Value.bool t48), ((3 : Nat), Value.bool t49), ((4 : Nat), Value.slice q50 n51 n52), ((5 : Nat), Value.string s53), ((6 : Nat), Value.string s54)]), (W4.heap.size, [((0 : Nat), Value.slice q30 n31 n32), ((1 : Nat), Value.bool t33), ((2 : Nat), Value.bool t34), ((3 : Nat), Value.bool t35), ((4 : Nat), Value.slice q36 n37 n38), ((5 : Nat), Value.string s39), ((6 : Nat), Value.string s40)])] → R (Ending.returned (Value.agg #[Value.slice q44 n45 n46, Value.bool t47, Value.bool t48, Value.bool t49, Value.slice q50 n51 n52, Value.string s53, Value.string s54])) (((((((w43.setCell { block := W3.heap.size, off := (0 : Nat) } (Value.slice q44 n45 n46)).setCell { block := W3.heap.size, off := (1 : Nat) } (Value.bool t47)).setCell { block := W3.heap.size, off := (2 : Nat) } (Value.bool t48)).setCell { block := W3.heap.size, off := (3 : Nat) } (Value.bool t49)).setCell { block := W3.heap.size, off := (4 : Nat) } (Value.slice q50 n51 n52)).setCell { block := W3.heap.size, off := (5 : Nat) } (Value.string s53)).setCell { block := W3.heap.size, off := (6 : Nat) } (Value.string s54))) else
 Known (((((((w41.setCell { block := W3.heap.size, off := (0 : Nat) } (Value.slice q30 n31 n32)).setCell { block := W3.heap.size, off := (1 : Nat) } (Value.bool t33)).setCell { block := W3.heap.size, off := (2 : Nat) } (Value.bool t34)).setCell { block := W3.heap.size, off := (3 : Nat) } (Value.bool t35)).setCell { block := W3.heap.size, off := (4 : Nat) } (Value.slice q36 n37 n38)).setCell { block := W3.heap.size, off := (5 : Nat) } (Value.string s39)).setCell { block := W3.heap.size, off := (6 : Nat) } (Value.string s40)) [(w.heap.size, [((0 : Nat), Value.slice mq mn mc), ((1 : Nat), Value.bool op), ((2 : Nat), Value.bool pz), ((3 : Nat), Value.bool st), ((4 : Nat), Value.slice wq wn wc), ((5 : Nat), Value.string na), ((6 : Nat), Value.string da)]), (W1.heap.size, [((0 : Nat), Value.int IntKind.i64 k), ((1 : Nat), Value.string s), ((2 : Nat), Value.slice dq dn dc), ((3 : Nat), Value.int IntKind.i64 N), ((4 : Nat), Value.slice kq kn kc), ((5 : Nat), Value.int IntKind.i64 nm), ((6 : Nat), Value.int IntKind.u8 fi)]), (W2.heap.size, [((0 : Nat), Value.int IntKind.i64 e), ((1 : Nat), Value.slice aq an ac), ((2 : Nat), Value.int IntKind.i64 z), ((3 : Nat), Value.slice nq nn nc), ((4 : Nat), Value.slice lq ln lc), ((5 : Nat), Value.bool re), ((6 : Nat), Value.bool po)]), (W3.heap.size, [((0 : Nat), Value.slice q30 n31 n32), ((1 : Nat), Value.bool t33), ((2 : Nat), Value.bool t34), ((3 : Nat), Value.bool t35), ((4 : Nat), Value.slice q36 n37 n38), ((5 : Nat), Value.string s39), ((6 : Nat), Value.string s40)]), (W4.heap.size, [((0 : Nat), Value.slice q30 n31 n32), ((1 : Nat), Value.bool t33), ((2 : Nat), Value.bool t34), ((3 : Nat), Value.bool t35), ((4 : Nat), Value.slice q36 n37 n38), ((5 : Nat), Value.string s39), ((6 : Nat), Value.string s40)])] → R (Ending.returned (Value.agg #[Value.slice q30 n31 n32, Value.bool t33, Value.bool t34, Value.bool t35, Value.slice q36 n37 n38, Value.string s39, Value.string s40])) (((((((w41.setCell { block := W3.heap.size, off := (0 : Nat) } (Value.slice q30 n31 n32)).setCell { block := W3.heap.size, off := (1 : Nat) } (Value.bool t33)).setCell { block := W3.heap.size, off := (2 : Nat) } (Value.bool t34)).setCell { block := W3.heap.size, off := (3 : Nat) } (Value.bool t35)).setCell { block := W3.heap.size, off := (4 : Nat) } (Value.slice q36 n37 n38)).setCell { block := W3.heap.size, off := (5 : Nat) } (Value.string s39)).setCell { block := W3.heap.size, off := (6 : Nat) } (Value.string s40))) ∧ bif re then
 Runs Tryd.prog (Instr.buildSlice (134 : Nat) (0 : Nat) #[]) w28 fun (v55 : Value) (w56 : World) => ∃ (q57 : Option Addr), ∃ (n58 : Nat), ∃ (n59 : Nat), v55 = Value.slice q57 n58 n59 ∧ Keeps w28 w56 [w.heap.size, W1.heap.size, W2.heap.size, W3.heap.size, W4.heap.size] ∧ Runs Tryd.prog (Builtin.append_ #[(134 : Nat), (134 : Nat)] (134 : Nat) #[Value.slice q57 n58 n59, Value.slice mq mn mc]) w56 fun (v60 : Value) (w61 : World) => ∃ (q62 : Option Addr), ∃ (n63 : Nat), ∃ (n64 : Nat), v60 = Value.slice q62 n63 n64 ∧ Keeps w56 w61 [w.heap.size, W1.heap.size, W2.heap.size, W3.heap.size, W4.heap.size] ∧ ∃ (I65 : Option Addr → Nat → Nat → Bool → Bool → Bool → Option Addr → Nat → Nat → ByteArray → ByteArray → World → Prop), (∀ (q66 : Option Addr) (n67 n68 : Nat) (t69 t70 t71 : Bool) (q72 : Option Addr) (n73 n74 : Nat) (s75 s76 : ByteArray) (w77 : World), I65 q66 n67 n68 t69 t70 t71 q72 n73 n74 s75 s76 w77 → Known w77 [(w.heap.size, [((0 : Nat), Value.slice mq mn mc), ((1 : Nat), Value.bool op), ((2 : Nat), Value.bool pz), ((3 : Nat), Value.bool st), ((4 : Nat), Value.slice wq wn wc), ((5 : Nat), Value.string na), ((6 : Nat), Value.string da)]), (W1.heap.size, [((0 : Nat), Value.int IntKind.i64 k), ((1 : Nat), Value.string s), ((2 : Nat), Value.slice dq dn dc), ((3 : Nat), Value.int IntKind.i64 N), ((4 : Nat), Value.slice kq kn kc), ((5 : Nat), Value.int IntKind.i64 nm), ((6 : Nat), Value.int IntKind.u8 fi)]), (W2.heap.size, [((0 : Nat), Value.int IntKind.i64 e), ((1 : Nat), Value.slice aq an ac), ((2 : Nat), Value.int IntKind.i64 z), ((3 : Nat), Value.slice nq nn nc), ((4 : Nat), Value.slice lq ln lc), ((5 : Nat), Value.bool re), ((6 : Nat), Value.bool po)]), (W3.heap.size, [((0 : Nat), Value.slice none (0 : Nat) (0 : Nat)), ((1 : Nat), Value.bool false), ((2 : Nat), Value.bool false), ((3 : Nat), Value.bool false), ((4 : Nat), Value.slice none (0 : Nat) (0 : Nat)), ((5 : Nat), Value.string { data := #[] }), ((6 : Nat), Value.string { data := #[] })]), (W4.heap.size, [((0 : Nat), Value.slice q66 n67 n68), ((1 : Nat), Value.bool t69), ((2 : Nat), Value.bool t70), ((3 : Nat), Value.bool t71), ((4 : Nat), Value.slice q72 n73 n74), ((5 : Nat), Value.string s75), ((6 : Nat), Value.string s76)])] → ∃ (I78 : Option Addr → Nat → Nat → Bool → Bool → Bool → Option Addr → Nat → Nat → ByteArray → ByteArray → World → Prop), (∀ (q79 : Option Addr) (n80 n81 : Nat) (t82 t83 t84 : Bool) (q85 : Option Addr) (n86 n87 : Nat) (s88 s89 : ByteArray) (w90 : World), I78 q79 n80 n81 t82 t83 t84 q85 n86 n87 s88 s89 w90 → Known w90 [(w.heap.size, [((0 : Nat), Value.slice mq mn mc), ((1 : Nat), Value.bool op), ((2 : Nat), Value.bool pz), ((3 : Nat), Value.bool st), ((4 : Nat), Value.slice wq wn wc), ((5 : Nat), Value.string na), ((6 : Nat), Value.string da)]), (W1.heap.size, [((0 : Nat), Value.int IntKind.i64 k), ((1 : Nat), Value.string s), ((2 : Nat), Value.slice dq dn dc), ((3 : Nat), Value.int IntKind.i64 N), ((4 : Nat), Value.slice kq kn kc), ((5 : Nat), Value.int IntKind.i64 nm), ((6 : Nat), Value.int IntKind.u8 fi)]), (W2.heap.size, [((0 : Nat), Value.int IntKind.i64 e), ((1 : Nat), Value.slice aq an ac), ((2 : Nat), Value.int IntKind.i64 z), ((3 : Nat), Value.slice nq nn nc), ((4 : Nat), Value.slice lq ln lc), ((5 : Nat), Value.bool re), ((6 : Nat), Value.bool po)]), (W3.heap.size, [((0 : Nat), Value.slice none (0 : Nat) (0 : Nat)), ((1 : Nat), Value.bool false), ((2 : Nat), Value.bool false), ((3 : Nat), Value.bool false), ((4 : Nat), Value.slice none (0 : Nat) (0 : Nat)), ((5 : Nat), Value.string { data := #[] }), ((6 : Nat), Value.string { data := #[] })]), (W4.heap.size, [((0 : Nat), Value.slice q79 n80 n81), ((1 : Nat), Value.bool t82), ((2 : Nat), Value.bool t83), ((3 : Nat), Value.bool t84), ((4 : Nat), Value.slice q85 n86 n87), ((5 : Nat), Value.string s88), ((6 : Nat), Value.string s89)])] → Known (((((((w90.setCell { block := W3.heap.size, off := (0 : Nat) } (Value.slice q79 n80 n81)).setCell { block := W3.heap.size, off := (1 : Nat) } (Value.bool t82)).setCell { block := W3.heap.size, off := (2 : Nat) } (Value.bool t83)).setCell { block := W3.heap.size, off := (3 : Nat) } (Value.bool t84)).setCell { block := W3.heap.size, off := (4 : Nat) } (Value.slice q85 n86 n87)).setCell { block := W3.heap.size, off := (5 : Nat) } (Value.string s88)).setCell { block := W3.heap.size, off := (6 : Nat) } (Value.string s89)) [(w.heap.size, [((0 : Nat), Value.slice mq mn mc), ((1 : Nat), Value.bool op), ((2 : Nat), Value.bool pz), ((3 : Nat), Value.bool st), ((4 : Nat), Value.slice wq wn wc), ((5 : Nat), Value.string na), ((6 : Nat), Value.string da)]), (W1.heap.size, [((0 : Nat), Value.int IntKind.i64 k), ((1 : Nat), Value.string s), ((2 : Nat), Value.slice dq dn dc), ((3 : Nat), Value.int IntKind.i64 N), ((4 : Nat), Value.slice kq kn kc), ((5 : Nat), Value.int IntKind.i64 nm), ((6 : Nat), Value.int IntKind.u8 fi)]), (W2.heap.size, [((0 : Nat), Value.int IntKind.i64 e), ((1 : Nat), Value.slice aq an ac), ((2 : Nat), Value.int IntKind.i64 z), ((3 : Nat), Value.slice nq nn nc), ((4 : Nat), Value.slice lq ln lc), ((5 : Nat), Value.bool re), ((6 : Nat), Value.bool po)]), (W3.heap.size, [((0 : Nat), Value.slice q79 n80 n81), ((1 : Nat), Value.bool t82), ((2 : Nat), Value.bool t83), ((3 : Nat), Value.bool t84), ((4 : Nat), Value.slice q85 n86 n87), ((5 : Nat), Value.string s88), ((6 : Nat), Value.string s89)]), (W4.heap.size, [((0 : Nat), Value.slice q79 n80 n81), ((1 : Nat), Value.bool t82), ((2 : Nat), Value.bool t83), ((3 : Nat), Value.bool t84), ((4 : Nat), Value.slice q85 n86 n87), ((5 : Nat), Value.string s88), ((6 : Nat), Value.string s89)])] → R (Ending.returned (Value.agg #[Value.slice q79 n80 n81, Value.bool t82, Value.bool t83, Value.bool t84, Value.slice q85 n86 n87, Value.string s88, Value.string s89])) (((((((w90.setCell { block := W3.heap.size, off := (0 : Nat) } (Value.slice q79 n80 n81)).setCell { block := W3.heap.size, off := (1 : Nat) } (Value.bool t82)).setCell { block := W3.heap.size, off := (2 : Nat) } (Value.bool t83)).setCell { block := W3.heap.size, off := (3 : Nat) } (Value.bool t84)).setCell { block := W3.heap.size, off := (4 : Nat) } (Value.slice q85 n86 n87)).setCell { block := W3.heap.size, off := (5 : Nat) } (Value.string s88)).setCell { block := W3.heap.size, off := (6 : Nat) } (Value.string s89))) ∧ bif decide (k ≥ (12 : Int)) then
 bif decide (k ≤ (14 : Int)) then
 Runs Tryd.prog (Builtin.append_ #[(134 : Nat), (134 : Nat)] (134 : Nat) #[Value.slice q62 n63 n64, Value.slice (some { block := w77.heap.size, off := (0 : Nat) }) (1 : Nat) (1 : Nat)]) (w77.alloc (Obj.cells #[Value.bool true, Value.slice wq wn wc] (146 : Nat))) fun (v91 : Value) (w92 : World) => ∃ (q93 : Option Addr), ∃ (n94 : Nat), ∃ (n95 : Nat), v91 = Value.slice q93 n94 n95 ∧ Keeps (w77.alloc (Obj.cells #[Value.bool true, Value.slice wq wn wc] (146 : Nat))) w92 [w.heap.size, W1.heap.size, W2.heap.size, W3.heap.size, W4.heap.size] ∧ SameVals SL SL ∧ I78 q93 n94 n95 t69 t70 t71 q72 n73 n74 s75 s76 (w92.setCell { block := W4.heap.size, off := (0 : Nat) } (Value.slice q93 n94 n95)) else
 SameVals SL SL ∧ I78 q66 n67 n68 t69 t70 t71 q72 n73 n74 s75 s76 w77 else
 SameVals SL SL ∧ I78 q66 n67 n68 t69 t70 t71 q72 n73 n74 s75 s76 w77) ∧ bif k == (1 : Int) then
 Runs Tryd.prog (Builtin.append_ #[(134 : Nat), (134 : Nat)] (134 : Nat) #[Value.slice q62 n63 n64, Value.slice (some { block := w61.heap.size, off := (0 : Nat) }) (1 : Nat) (1 : Nat)]) (w61.alloc (Obj.cells #[Value.bool true, Value.slice none (0 : Nat) (0 : Nat)] (146 : Nat))) fun (v96 : Value) (w97 : World) => ∃ (q98 : Option Addr), ∃ (n99 : Nat), ∃ (n100 : Nat), v96 = Value.slice q98 n99 n100 ∧ Keeps (w61.alloc (Obj.cells #[Value.bool true, Value.slice none (0 : Nat) (0 : Nat)] (146 : Nat))) w97 [w.heap.size, W1.heap.size, W2.heap.size, W3.heap.size, W4.heap.size] ∧ SameVals SL SL ∧ I65 q98 n99 n100 t20 t21 t22 q23 n24 n25 s26 s27 (w97.setCell { block := W4.heap.size, off := (0 : Nat) } (Value.slice q98 n99 n100)) else
 SameVals SL SL ∧ I65 q17 n18 n19 t20 t21 t22 q23 n24 n25 s26 s27 w61 else
 SameVals SL SL ∧ I29 q17 n18 n19 t20 t21 t22 q23 n24 n25 s26 s27 w28) ∧ bif k == (2 : Int) then
 bif e == (7 : Int) then
 SameVals SL SL ∧ I16 (some { block := w15.heap.size, off := (0 : Nat) }) (1 : Nat) (1 : Nat) t7 t8 t9 q10 n11 n12 s13 s14 ((w15.alloc (Obj.cells #[Value.bool false, Value.slice none (0 : Nat) (0 : Nat)] (146 : Nat))).setCell { block := W4.heap.size, off := (0 : Nat) } (Value.slice (some { block := w15.heap.size, off := (0 : Nat) }) (1 : Nat) (1 : Nat))) else
 SameVals SL SL ∧ I16 q4 n5 n6 t7 t8 t9 q10 n11 n12 s13 s14 w15 else
 SameVals SL SL ∧ I16 q4 n5 n6 t7 t8 t9 q10 n11 n12 s13 s14 w15) ∧ bif !t2 then
 SameVals SL SL ∧ I3 mq mn mc t2 po false none (0 : Nat) (0 : Nat) na da (((w1.setCell { block := W4.heap.size, off := (1 : Nat) } (Value.bool t2)).setCell { block := W4.heap.size, off := (3 : Nat) } (Value.bool false)).setCell { block := W4.heap.size, off := (4 : Nat) } (Value.slice none (0 : Nat) (0 : Nat))) else
 SameVals SL SL ∧ I3 mq mn mc t2 po st wq wn wc na da (w1.setCell { block := W4.heap.size, off := (1 : Nat) } (Value.bool t2))
theorem vcTryd100 (mq : Option Addr) (mn mc : Nat) (op pz st : Bool) (wq : Option Addr) (wn wc : Nat) (na da : ByteArray) (k : Int) (s : ByteArray) (dq : Option Addr) (dn dc : Nat) (N : Int) (kq : Option Addr) (kn kc : Nat) (nm fi : Int) (e : Int) (aq : Option Addr) (an ac : Nat) (z : Int) (nq : Option Addr) (nn nc : Nat) (lq : Option Addr) (ln lc : Nat) (re po : Bool) (w : World) (R : Ending → World → Prop) : SX.vcFn Tryd.prog [(1000016, ⟨[], [3, 7, 4, 5, 6], [(4, 0, .slice), (4, 1, .bool), (4, 2, .bool), (4, 3, .bool), (4, 4, .slice), (4, 5, .str), (4, 6, .str)]⟩), (1000015, ⟨[], [7, 6], [(4, 0, .slice), (4, 1, .bool), (4, 2, .bool), (4, 3, .bool), (4, 4, .slice), (4, 5, .str), (4, 6, .str)]⟩), (1000013, ⟨[], [4, 8, 3, 7, 6], [(4, 0, .slice), (4, 1, .bool), (4, 2, .bool), (4, 3, .bool), (4, 4, .slice), (4, 5, .str), (4, 6, .str)]⟩), (1000009, ⟨[], [5, 4, 3, 7, 6], [(4, 0, .slice), (4, 1, .bool), (4, 2, .bool), (4, 3, .bool), (4, 4, .slice), (4, 5, .str), (4, 6, .str)]⟩), (1000007, ⟨[], [5, 4, 3, 7, 6], [(4, 0, .slice), (4, 1, .bool), (4, 2, .bool), (4, 3, .bool), (4, 4, .slice), (4, 5, .str), (4, 6, .str)]⟩)] Tryd.f100 [.v (.agg #[.slice mq mn mc, .bool op, .bool pz, .bool st, .slice wq wn wc, .string na, .string da]), .v (.agg #[.int .i64 k, .string s, .slice dq dn dc, .int .i64 N, .slice kq kn kc, .int .i64 nm, .int .u8 fi]), .v (.agg #[.int .i64 e, .slice aq an ac, .int .i64 z, .slice nq nn nc, .slice lq ln lc, .bool re, .bool po])] [] w R =
 VCTryd100 mq mn mc op pz st wq wn wc na da k s dq dn dc N kq kn kc nm fi e aq an ac z nq nn nc lq ln lc re po w (w.alloc (Obj.cells #[Value.slice mq mn mc, Value.bool op, Value.bool pz, Value.bool st, Value.slice wq wn wc, Value.string na, Value.string da] (136 : Nat))) ((w.alloc (Obj.cells #[Value.slice mq mn mc, Value.bool op, Value.bool pz, Value.bool st, Value.slice wq wn wc, Value.string na, Value.string da] (136 : Nat))).alloc (Obj.cells #[Value.int IntKind.i64 k, Value.string s, Value.slice dq dn dc, Value.int IntKind.i64 N, Value.slice kq kn kc, Value.int IntKind.i64 nm, Value.int IntKind.u8 fi] (124 : Nat))) (((w.alloc (Obj.cells #[Value.slice mq mn mc, Value.bool op, Value.bool pz, Value.bool st, Value.slice wq wn wc, Value.string na, Value.string da] (136 : Nat))).alloc (Obj.cells #[Value.int IntKind.i64 k, Value.string s, Value.slice dq dn dc, Value.int IntKind.i64 N, Value.slice kq kn kc, Value.int IntKind.i64 nm, Value.int IntKind.u8 fi] (124 : Nat))).alloc (Obj.cells #[Value.int IntKind.i64 e, Value.slice aq an ac, Value.int IntKind.i64 z, Value.slice nq nn nc, Value.slice lq ln lc, Value.bool re, Value.bool po] (138 : Nat))) ((((w.alloc (Obj.cells #[Value.slice mq mn mc, Value.bool op, Value.bool pz, Value.bool st, Value.slice wq wn wc, Value.string na, Value.string da] (136 : Nat))).alloc (Obj.cells #[Value.int IntKind.i64 k, Value.string s, Value.slice dq dn dc, Value.int IntKind.i64 N, Value.slice kq kn kc, Value.int IntKind.i64 nm, Value.int IntKind.u8 fi] (124 : Nat))).alloc (Obj.cells #[Value.int IntKind.i64 e, Value.slice aq an ac, Value.int IntKind.i64 z, Value.slice nq nn nc, Value.slice lq ln lc, Value.bool re, Value.bool po] (138 : Nat))).alloc (Obj.cells #[Value.slice none (0 : Nat) (0 : Nat), Value.bool false, Value.bool false, Value.bool false, Value.slice none (0 : Nat) (0 : Nat), Value.string { data := #[] }, Value.string { data := #[] }] (136 : Nat))) (((((w.alloc (Obj.cells #[Value.slice mq mn mc, Value.bool op, Value.bool pz, Value.bool st, Value.slice wq wn wc, Value.string na, Value.string da] (136 : Nat))).alloc (Obj.cells #[Value.int IntKind.i64 k, Value.string s, Value.slice dq dn dc, Value.int IntKind.i64 N, Value.slice kq kn kc, Value.int IntKind.i64 nm, Value.int IntKind.u8 fi] (124 : Nat))).alloc (Obj.cells #[Value.int IntKind.i64 e, Value.slice aq an ac, Value.int IntKind.i64 z, Value.slice nq nn nc, Value.slice lq ln lc, Value.bool re, Value.bool po] (138 : Nat))).alloc (Obj.cells #[Value.slice none (0 : Nat) (0 : Nat), Value.bool false, Value.bool false, Value.bool false, Value.slice none (0 : Nat) (0 : Nat), Value.string { data := #[] }, Value.string { data := #[] }] (136 : Nat))).alloc (Obj.cells #[Value.slice none (0 : Nat) (0 : Nat), Value.bool false, Value.bool false, Value.bool false, Value.slice none (0 : Nat) (0 : Nat), Value.string { data := #[] }, Value.string { data := #[] }] (136 : Nat))) [(w.heap.size, [((0 : Nat), Value.slice mq mn mc), ((1 : Nat), Value.bool op), ((2 : Nat), Value.bool pz), ((3 : Nat), Value.bool st), ((4 : Nat), Value.slice wq wn wc), ((5 : Nat), Value.string na), ((6 : Nat), Value.string da)]), ((w.alloc (Obj.cells #[Value.slice mq mn mc, Value.bool op, Value.bool pz, Value.bool st, Value.slice wq wn wc, Value.string na, Value.string da] (136 : Nat))).heap.size, [((0 : Nat), Value.int IntKind.i64 k), ((1 : Nat), Value.string s), ((2 : Nat), Value.slice dq dn dc), ((3 : Nat), Value.int IntKind.i64 N), ((4 : Nat), Value.slice kq kn kc), ((5 : Nat), Value.int IntKind.i64 nm), ((6 : Nat), Value.int IntKind.u8 fi)]), (((w.alloc (Obj.cells #[Value.slice mq mn mc, Value.bool op, Value.bool pz, Value.bool st, Value.slice wq wn wc, Value.string na, Value.string da] (136 : Nat))).alloc (Obj.cells #[Value.int IntKind.i64 k, Value.string s, Value.slice dq dn dc, Value.int IntKind.i64 N, Value.slice kq kn kc, Value.int IntKind.i64 nm, Value.int IntKind.u8 fi] (124 : Nat))).heap.size, [((0 : Nat), Value.int IntKind.i64 e), ((1 : Nat), Value.slice aq an ac), ((2 : Nat), Value.int IntKind.i64 z), ((3 : Nat), Value.slice nq nn nc), ((4 : Nat), Value.slice lq ln lc), ((5 : Nat), Value.bool re), ((6 : Nat), Value.bool po)]), ((((w.alloc (Obj.cells #[Value.slice mq mn mc, Value.bool op, Value.bool pz, Value.bool st, Value.slice wq wn wc, Value.string na, Value.string da] (136 : Nat))).alloc (Obj.cells #[Value.int IntKind.i64 k, Value.string s, Value.slice dq dn dc, Value.int IntKind.i64 N, Value.slice kq kn kc, Value.int IntKind.i64 nm, Value.int IntKind.u8 fi] (124 : Nat))).alloc (Obj.cells #[Value.int IntKind.i64 e, Value.slice aq an ac, Value.int IntKind.i64 z, Value.slice nq nn nc, Value.slice lq ln lc, Value.bool re, Value.bool po] (138 : Nat))).heap.size, [((0 : Nat), Value.slice none (0 : Nat) (0 : Nat)), ((1 : Nat), Value.bool false), ((2 : Nat), Value.bool false), ((3 : Nat), Value.bool false), ((4 : Nat), Value.slice none (0 : Nat) (0 : Nat)), ((5 : Nat), Value.string { data := #[] }), ((6 : Nat), Value.string { data := #[] })]), (((((w.alloc (Obj.cells #[Value.slice mq mn mc, Value.bool op, Value.bool pz, Value.bool st, Value.slice wq wn wc, Value.string na, Value.string da] (136 : Nat))).alloc (Obj.cells #[Value.int IntKind.i64 k, Value.string s, Value.slice dq dn dc, Value.int IntKind.i64 N, Value.slice kq kn kc, Value.int IntKind.i64 nm, Value.int IntKind.u8 fi] (124 : Nat))).alloc (Obj.cells #[Value.int IntKind.i64 e, Value.slice aq an ac, Value.int IntKind.i64 z, Value.slice nq nn nc, Value.slice lq ln lc, Value.bool re, Value.bool po] (138 : Nat))).alloc (Obj.cells #[Value.slice none (0 : Nat) (0 : Nat), Value.bool false, Value.bool false, Value.bool false, Value.slice none (0 : Nat) (0 : Nat), Value.string { data := #[] }, Value.string { data := #[] }] (136 : Nat))).heap.size, [((0 : Nat), Value.slice mq mn mc), ((1 : Nat), Value.bool op), ((2 : Nat), Value.bool po), ((3 : Nat), Value.bool st), ((4 : Nat), Value.slice wq wn wc), ((5 : Nat), Value.string na), ((6 : Nat), Value.string da)])] [Value.slice mq mn mc, Value.bool op, Value.bool pz, Value.bool st, Value.slice wq wn wc, Value.string na, Value.string da, Value.int IntKind.i64 k, Value.string s, Value.slice dq dn dc, Value.int IntKind.i64 N, Value.slice kq kn kc, Value.int IntKind.i64 nm, Value.int IntKind.u8 fi, Value.int IntKind.i64 e, Value.slice aq an ac, Value.int IntKind.i64 z, Value.slice nq nn nc, Value.slice lq ln lc, Value.bool re, Value.bool po, Value.slice none (0 : Nat) (0 : Nat), Value.bool false, Value.bool false, Value.bool false, Value.slice none (0 : Nat) (0 : Nat), Value.string { data := #[] }, Value.string { data := #[] }] R := by kernel_rfl
def VCTryd152 (mq : Option Addr) (mn mc : Nat) (op pz st : Bool) (wq : Option Addr) (wn wc : Nat) (na da : ByteArray) (mq2 : Option Addr) (mn2 mc2 : Nat) (op2 pz2 st2 : Bool) (wq2 : Option Addr) (wn2 wc2 : Nat) (na2 da2 : ByteArray) (k : Int) (s : ByteArray) (dq : Option Addr) (dn dc : Nat) (N : Int) (kq : Option Addr) (kn kc : Nat) (nm fi : Int) (e : Int) (aq : Option Addr) (an ac : Nat) (z : Int) (nq : Option Addr) (nn nc : Nat) (lq : Option Addr) (ln lc : Nat) (re po : Bool) (w : World) (W1 : World) (W2 : World) (W3 : World) (W4 : World) (W5 : World) (KL : List (Nat × List (Nat × Value))) (SL : List Value) (R : Ending → World → Prop) : Prop :=
 ∃ (I0 : Option Addr → Nat → Nat → Bool → Bool → Bool → Option Addr → Nat → Nat → ByteArray → ByteArray → World → Prop), (∀ (q1 : Option Addr) (n2 n3 : Nat) (t4 t5 t6 : Bool) (q7 : Option Addr) (n8 n9 : Nat) (s10 s11 : ByteArray) (w12 : World), I0 q1 n2 n3 t4 t5 t6 q7 n8 n9 s10 s11 w12 → Known w12 [(w.heap.size, [((0 : Nat), Value.slice mq mn mc), ((1 : Nat), Value.bool op), ((2 : Nat), Value.bool pz), ((3 : Nat), Value.bool st), ((4 : Nat), Value.slice wq wn wc), ((5 : Nat), Value.string na), ((6 : Nat), Value.string da)]), (W1.heap.size, [((0 : Nat), Value.slice q1 n2 n3), ((1 : Nat), Value.bool t4), ((2 : Nat), Value.bool t5), ((3 : Nat), Value.bool t6), ((4 : Nat), Value.slice q7 n8 n9), ((5 : Nat), Value.string s10), ((6 : Nat), Value.string s11)]), (W2.heap.size, [((0 : Nat), Value.int IntKind.i64 k), ((1 : Nat), Value.string s), ((2 : Nat), Value.slice dq dn dc), ((3 : Nat), Value.int IntKind.i64 N), ((4 : Nat), Value.slice kq kn kc), ((5 : Nat), Value.int IntKind.i64 nm), ((6 : Nat), Value.int IntKind.u8 fi)]), (W3.heap.size, [((0 : Nat), Value.int IntKind.i64 e), ((1 : Nat), Value.slice aq an ac), ((2 : Nat), Value.int IntKind.i64 z), ((3 : Nat), Value.slice nq nn nc), ((4 : Nat), Value.slice lq ln lc), ((5 : Nat), Value.bool re), ((6 : Nat), Value.bool po)]), (W4.heap.size, [((0 : Nat), Value.slice none (0 : Nat) (0 : Nat)), ((1 : Nat), Value.bool false), ((2 : Nat), Value.bool false), ((3 : Nat), Value.bool false), ((4 : Nat), Value.slice none (0 : Nat) (0 : Nat)), ((5 : Nat), Value.string { data := #[] }), ((6 : Nat), Value.string { data := #[] })])] → Known (((((((w12.setCell { block := W4.heap.size, off := (0 : Nat) } (Value.slice q1 n2 n3)).setCell { block := W4.heap.size, off := (1 : Nat) } (Value.bool t4)).setCell { block := W4.heap.size, off := (2 : Nat) } (Value.bool t5)).setCell { block := W4.heap.size, off := (3 : Nat) } (Value.bool t6)).setCell { block := W4.heap.size, off := (4 : Nat) } (Value.slice q7 n8 n9)).setCell { block := W4.heap.size, off := (5 : Nat) } (Value.string s10)).setCell { block := W4.heap.size, off := (6 : Nat) } (Value.string s11)) [(w.heap.size, [((0 : Nat), Value.slice mq mn mc), ((1 : Nat), Value.bool op), ((2 : Nat), Value.bool pz), ((3 : Nat), Value.bool st), ((4 : Nat), Value.slice wq wn wc), ((5 : Nat), Value.string na), ((6 : Nat), Value.string da)]), (W1.heap.size, [((0 : Nat), Value.slice q1 n2 n3), ((1 : Nat), Value.bool t4), ((2 : Nat), Value.bool t5), ((3 : Nat), Value.bool t6), ((4 : Nat), Value.slice q7 n8 n9), ((5 : Nat), Value.string s10), ((6 : Nat), Value.string s11)]), (W2.heap.size, [((0 : Nat), Value.int IntKind.i64 k), ((1 : Nat), Value.string s), ((2 : Nat), Value.slice dq dn dc), ((3 : Nat), Value.int IntKind.i64 N), ((4 : Nat), Value.slice kq kn kc), ((5 : Nat), Value.int IntKind.i64 nm), ((6 : Nat), Value.int IntKind.u8 fi)]), (W3.heap.size, [((0 : Nat), Value.int IntKind.i64 e), ((1 : Nat), Value.slice aq an ac), ((2 : Nat), Value.int IntKind.i64 z), ((3 : Nat), Value.slice nq nn nc), ((4 : Nat), Value.slice lq ln lc), ((5 : Nat), Value.bool re), ((6 : Nat), Value.bool po)]), (W4.heap.size, [((0 : Nat), Value.slice q1 n2 n3), ((1 : Nat), Value.bool t4), ((2 : Nat), Value.bool t5), ((3 : Nat), Value.bool t6), ((4 : Nat), Value.slice q7 n8 n9), ((5 : Nat), Value.string s10), ((6 : Nat), Value.string s11)])] → R (Ending.returned (Value.agg #[Value.slice q1 n2 n3, Value.bool t4, Value.bool t5, Value.bool t6, Value.slice q7 n8 n9, Value.string s10, Value.string s11])) (((((((w12.setCell { block := W4.heap.size, off := (0 : Nat) } (Value.slice q1 n2 n3)).setCell { block := W4.heap.size, off := (1 : Nat) } (Value.bool t4)).setCell { block := W4.heap.size, off := (2 : Nat) } (Value.bool t5)).setCell { block := W4.heap.size, off := (3 : Nat) } (Value.bool t6)).setCell { block := W4.heap.size, off := (4 : Nat) } (Value.slice q7 n8 n9)).setCell { block := W4.heap.size, off := (5 : Nat) } (Value.string s10)).setCell { block := W4.heap.size, off := (6 : Nat) } (Value.string s11))) ∧ bif k == (1 : Int) then
 SameVals SL SL ∧ I0 (some { block := W5.heap.size, off := (0 : Nat) }) (1 : Nat) (1 : Nat) op2 pz2 st2 wq2 wn2 wc2 na2 da2 ((W5.alloc (Obj.cells #[Value.bool true, Value.slice none (0 : Nat) (0 : Nat)] (146 : Nat))).setCell { block := W1.heap.size, off := (0 : Nat) } (Value.slice (some { block := W5.heap.size, off := (0 : Nat) }) (1 : Nat) (1 : Nat))) else
 bif k == (2 : Int) then
 SameVals SL SL ∧ I0 (some { block := (W5.setCell { block := W1.heap.size, off := (4 : Nat) } (Value.slice lq ln lc)).heap.size, off := (0 : Nat) }) (1 : Nat) (1 : Nat) op2 pz2 st2 lq ln lc na2 da2 (((W5.setCell { block := W1.heap.size, off := (4 : Nat) } (Value.slice lq ln lc)).alloc (Obj.cells #[Value.bool true, Value.slice lq ln lc] (146 : Nat))).setCell { block := W1.heap.size, off := (0 : Nat) } (Value.slice (some { block := (W5.setCell { block := W1.heap.size, off := (4 : Nat) } (Value.slice lq ln lc)).heap.size, off := (0 : Nat) }) (1 : Nat) (1 : Nat))) else
 bif k == (3 : Int) then
 ∃ (s13 : ByteArray), s13.size = dn ∧ BytesAt W5 dq s13 ∧ (Known W5 KL →
 Rets Tryd.prog (91 : Nat) #[Value.slice wq wn wc, Value.string s, Value.string s13] W5 fun (v14 : Value) (w15 : World) => ∃ (q16 : Option Addr), ∃ (n17 : Nat), ∃ (n18 : Nat), v14 = Value.slice q16 n17 n18 ∧ Keeps W5 w15 [w.heap.size, W1.heap.size, W2.heap.size, W3.heap.size, W4.heap.size] ∧ SameVals SL SL ∧ I0 mq2 mn2 mc2 op2 pz2 st2 q16 n17 n18 na2 da2 (w15.setCell { block := W1.heap.size, off := (4 : Nat) } (Value.slice q16 n17 n18))) else
 bif k == (4 : Int) then
 SameVals SL SL ∧ I0 mq2 mn2 mc2 op2 pz2 true wq2 wn2 wc2 s { data := #[] } (((W5.setCell { block := W1.heap.size, off := (3 : Nat) } (Value.bool true)).setCell { block := W1.heap.size, off := (5 : Nat) } (Value.string s)).setCell { block := W1.heap.size, off := (6 : Nat) } (Value.string { data := #[] })) else
 bif k == (5 : Int) then
 ∃ (s19 : ByteArray), s19.size = dn ∧ BytesAt W5 dq s19 ∧ da.size + s19.size ≤ (9223372036854775807 : Nat) ∧ SameVals SL SL ∧ I0 mq2 mn2 mc2 op2 pz2 st2 wq2 wn2 wc2 na2 (da ++ s19) (W5.setCell { block := W1.heap.size, off := (6 : Nat) } (Value.string (da ++ s19))) else
 bif k == (6 : Int) then
 Known W5 KL →
 Rets Tryd.prog (91 : Nat) #[Value.slice wq wn wc, Value.string na, Value.string da] W5 fun (v20 : Value) (w21 : World) => ∃ (q22 : Option Addr), ∃ (n23 : Nat), ∃ (n24 : Nat), v20 = Value.slice q22 n23 n24 ∧ Keeps W5 w21 [w.heap.size, W1.heap.size, W2.heap.size, W3.heap.size, W4.heap.size] ∧ SameVals SL SL ∧ I0 mq2 mn2 mc2 op2 pz2 false q22 n23 n24 na2 da2 ((w21.setCell { block := W1.heap.size, off := (4 : Nat) } (Value.slice q22 n23 n24)).setCell { block := W1.heap.size, off := (3 : Nat) } (Value.bool false)) else
 bif k == (7 : Int) then
 SameVals SL SL ∧ I0 mq2 mn2 mc2 op2 pz2 false wq2 wn2 wc2 na2 da2 (W5.setCell { block := W1.heap.size, off := (3 : Nat) } (Value.bool false)) else
 bif k == (11 : Int) then
 Known W5 KL →
 Rets Tryd.prog (92 : Nat) #[Value.slice wq wn wc, Value.string s] W5 fun (v25 : Value) (w26 : World) => ∃ (q27 : Option Addr), ∃ (n28 : Nat), ∃ (n29 : Nat), v25 = Value.slice q27 n28 n29 ∧ Keeps W5 w26 [w.heap.size, W1.heap.size, W2.heap.size, W3.heap.size, W4.heap.size] ∧ SameVals SL SL ∧ I0 mq2 mn2 mc2 op2 pz2 st2 q27 n28 n29 na2 da2 (w26.setCell { block := W1.heap.size, off := (4 : Nat) } (Value.slice q27 n28 n29)) else
 bif k == (12 : Int) then
 bif k == (12 : Int) then
 SameVals SL SL ∧ I0 (some { block := W5.heap.size, off := (0 : Nat) }) (1 : Nat) (1 : Nat) op2 pz2 st2 wq2 wn2 wc2 na2 da2 ((W5.alloc (Obj.cells #[Value.bool true, Value.slice wq wn wc] (146 : Nat))).setCell { block := W1.heap.size, off := (0 : Nat) } (Value.slice (some { block := W5.heap.size, off := (0 : Nat) }) (1 : Nat) (1 : Nat))) else
 SameVals SL SL ∧ I0 mq2 mn2 mc2 op2 pz2 st2 wq2 wn2 wc2 na2 da2 W5 else
 bif k == (13 : Int) then
 bif k == (13 : Int) then
 SameVals SL SL ∧ I0 (some { block := W5.heap.size, off := (0 : Nat) }) (1 : Nat) (1 : Nat) op2 pz2 st2 wq2 wn2 wc2 na2 da2 ((W5.alloc (Obj.cells #[Value.bool true, Value.slice wq wn wc] (146 : Nat))).setCell { block := W1.heap.size, off := (0 : Nat) } (Value.slice (some { block := W5.heap.size, off := (0 : Nat) }) (1 : Nat) (1 : Nat))) else
 SameVals SL SL ∧ I0 mq2 mn2 mc2 op2 pz2 st2 wq2 wn2 wc2 na2 da2 W5 else
 bif k == (14 : Int) then
 SameVals SL SL ∧ I0 (some { block := W5.heap.size, off := (0 : Nat) }) (1 : Nat) (1 : Nat) op2 pz2 st2 wq2 wn2 wc2 na2 da2 ((W5.alloc (Obj.cells #[Value.bool true, Value.slice wq wn wc] (146 : Nat))).setCell { block := W1.heap.size, off := (0 : Nat) } (Value.slice (some { block := W5.heap.size, off := (0 : Nat) }) (1 : Nat) (1 : Nat))) else
 SameVals SL SL ∧ I0 mq2 mn2 mc2 op2 pz2 st2 wq2 wn2 wc2 na2 da2 W5
theorem vcTryd152 (mq : Option Addr) (mn mc : Nat) (op pz st : Bool) (wq : Option Addr) (wn wc : Nat) (na da : ByteArray) (mq2 : Option Addr) (mn2 mc2 : Nat) (op2 pz2 st2 : Bool) (wq2 : Option Addr) (wn2 wc2 : Nat) (na2 da2 : ByteArray) (k : Int) (s : ByteArray) (dq : Option Addr) (dn dc : Nat) (N : Int) (kq : Option Addr) (kn kc : Nat) (nm fi : Int) (e : Int) (aq : Option Addr) (an ac : Nat) (z : Int) (nq : Option Addr) (nn nc : Nat) (lq : Option Addr) (ln lc : Nat) (re po : Bool) (w : World) (R : Ending → World → Prop) : SX.vcFn Tryd.prog [(1000026, ⟨[], [5, 8], [(1, 0, .slice), (1, 1, .bool), (1, 2, .bool), (1, 3, .bool), (1, 4, .slice), (1, 5, .str), (1, 6, .str)]⟩)] Tryd.f152 [.v (.agg #[.slice mq mn mc, .bool op, .bool pz, .bool st, .slice wq wn wc, .string na, .string da]), .v (.agg #[.slice mq2 mn2 mc2, .bool op2, .bool pz2, .bool st2, .slice wq2 wn2 wc2, .string na2, .string da2]), .v (.agg #[.int .i64 k, .string s, .slice dq dn dc, .int .i64 N, .slice kq kn kc, .int .i64 nm, .int .u8 fi]), .v (.agg #[.int .i64 e, .slice aq an ac, .int .i64 z, .slice nq nn nc, .slice lq ln lc, .bool re, .bool po])] [] w R =
 VCTryd152 mq mn mc op pz st wq wn wc na da mq2 mn2 mc2 op2 pz2 st2 wq2 wn2 wc2 na2 da2 k s dq dn dc N kq kn kc nm fi e aq an ac z nq nn nc lq ln lc re po w (w.alloc (Obj.cells #[Value.slice mq mn mc, Value.bool op, Value.bool pz, Value.bool st, Value.slice wq wn wc, Value.string na, Value.string da] (136 : Nat))) ((w.alloc (Obj.cells #[Value.slice mq mn mc, Value.bool op, Value.bool pz, Value.bool st, Value.slice wq wn wc, Value.string na, Value.string da] (136 : Nat))).alloc (Obj.cells #[Value.slice mq2 mn2 mc2, Value.bool op2, Value.bool pz2, Value.bool st2, Value.slice wq2 wn2 wc2, Value.string na2, Value.string da2] (136 : Nat))) (((w.alloc (Obj.cells #[Value.slice mq mn mc, Value.bool op, Value.bool pz, Value.bool st, Value.slice wq wn wc, Value.string na, Value.string da] (136 : Nat))).alloc (Obj.cells #[Value.slice mq2 mn2 mc2, Value.bool op2, Value.bool pz2, Value.bool st2, Value.slice wq2 wn2 wc2, Value.string na2, Value.string da2] (136 : Nat))).alloc (Obj.cells #[Value.int IntKind.i64 k, Value.string s, Value.slice dq dn dc, Value.int IntKind.i64 N, Value.slice kq kn kc, Value.int IntKind.i64 nm, Value.int IntKind.u8 fi] (124 : Nat))) ((((w.alloc (Obj.cells #[Value.slice mq mn mc, Value.bool op, Value.bool pz, Value.bool st, Value.slice wq wn wc, Value.string na, Value.string da] (136 : Nat))).alloc (Obj.cells #[Value.slice mq2 mn2 mc2, Value.bool op2, Value.bool pz2, Value.bool st2, Value.slice wq2 wn2 wc2, Value.string na2, Value.string da2] (136 : Nat))).alloc (Obj.cells #[Value.int IntKind.i64 k, Value.string s, Value.slice dq dn dc, Value.int IntKind.i64 N, Value.slice kq kn kc, Value.int IntKind.i64 nm, Value.int IntKind.u8 fi] (124 : Nat))).alloc (Obj.cells #[Value.int IntKind.i64 e, Value.slice aq an ac, Value.int IntKind.i64 z, Value.slice nq nn nc, Value.slice lq ln lc, Value.bool re, Value.bool po] (138 : Nat))) (((((w.alloc (Obj.cells #[Value.slice mq mn mc, Value.bool op, Value.bool pz, Value.bool st, Value.slice wq wn wc, Value.string na, Value.string da] (136 : Nat))).alloc (Obj.cells #[Value.slice mq2 mn2 mc2, Value.bool op2, Value.bool pz2, Value.bool st2, Value.slice wq2 wn2 wc2, Value.string na2, Value.string da2] (136 : Nat))).alloc (Obj.cells #[Value.int IntKind.i64 k, Value.string s, Value.slice dq dn dc, Value.int IntKind.i64 N, Value.slice kq kn kc, Value.int IntKind.i64 nm, Value.int IntKind.u8 fi] (124 : Nat))).alloc (Obj.cells #[Value.int IntKind.i64 e, Value.slice aq an ac, Value.int IntKind.i64 z, Value.slice nq nn nc, Value.slice lq ln lc, Value.bool re, Value.bool po] (138 : Nat))).alloc (Obj.cells #[Value.slice none (0 : Nat) (0 : Nat), Value.bool false, Value.bool false, Value.bool false, Value.slice none (0 : Nat) (0 : Nat), Value.string { data := #[] }, Value.string { data := #[] }] (136 : Nat))) [(w.heap.size, [((0 : Nat), Value.slice mq mn mc), ((1 : Nat), Value.bool op), ((2 : Nat), Value.bool pz), ((3 : Nat), Value.bool st), ((4 : Nat), Value.slice wq wn wc), ((5 : Nat), Value.string na), ((6 : Nat), Value.string da)]), ((w.alloc (Obj.cells #[Value.slice mq mn mc, Value.bool op, Value.bool pz, Value.bool st, Value.slice wq wn wc, Value.string na, Value.string da] (136 : Nat))).heap.size, [((0 : Nat), Value.slice mq2 mn2 mc2), ((1 : Nat), Value.bool op2), ((2 : Nat), Value.bool pz2), ((3 : Nat), Value.bool st2), ((4 : Nat), Value.slice wq2 wn2 wc2), ((5 : Nat), Value.string na2), ((6 : Nat), Value.string da2)]), (((w.alloc (Obj.cells #[Value.slice mq mn mc, Value.bool op, Value.bool pz, Value.bool st, Value.slice wq wn wc, Value.string na, Value.string da] (136 : Nat))).alloc (Obj.cells #[Value.slice mq2 mn2 mc2, Value.bool op2, Value.bool pz2, Value.bool st2, Value.slice wq2 wn2 wc2, Value.string na2, Value.string da2] (136 : Nat))).heap.size, [((0 : Nat), Value.int IntKind.i64 k), ((1 : Nat), Value.string s), ((2 : Nat), Value.slice dq dn dc), ((3 : Nat), Value.int IntKind.i64 N), ((4 : Nat), Value.slice kq kn kc), ((5 : Nat), Value.int IntKind.i64 nm), ((6 : Nat), Value.int IntKind.u8 fi)]), ((((w.alloc (Obj.cells #[Value.slice mq mn mc, Value.bool op, Value.bool pz, Value.bool st, Value.slice wq wn wc, Value.string na, Value.string da] (136 : Nat))).alloc (Obj.cells #[Value.slice mq2 mn2 mc2, Value.bool op2, Value.bool pz2, Value.bool st2, Value.slice wq2 wn2 wc2, Value.string na2, Value.string da2] (136 : Nat))).alloc (Obj.cells #[Value.int IntKind.i64 k, Value.string s, Value.slice dq dn dc, Value.int IntKind.i64 N, Value.slice kq kn kc, Value.int IntKind.i64 nm, Value.int IntKind.u8 fi] (124 : Nat))).heap.size, [((0 : Nat), Value.int IntKind.i64 e), ((1 : Nat), Value.slice aq an ac), ((2 : Nat), Value.int IntKind.i64 z), ((3 : Nat), Value.slice nq nn nc), ((4 : Nat), Value.slice lq ln lc), ((5 : Nat), Value.bool re), ((6 : Nat), Value.bool po)]), (((((w.alloc (Obj.cells #[Value.slice mq mn mc, Value.bool op, Value.bool pz, Value.bool st, Value.slice wq wn wc, Value.string na, Value.string da] (136 : Nat))).alloc (Obj.cells #[Value.slice mq2 mn2 mc2, Value.bool op2, Value.bool pz2, Value.bool st2, Value.slice wq2 wn2 wc2, Value.string na2, Value.string da2] (136 : Nat))).alloc (Obj.cells #[Value.int IntKind.i64 k, Value.string s, Value.slice dq dn dc, Value.int IntKind.i64 N, Value.slice kq kn kc, Value.int IntKind.i64 nm, Value.int IntKind.u8 fi] (124 : Nat))).alloc (Obj.cells #[Value.int IntKind.i64 e, Value.slice aq an ac, Value.int IntKind.i64 z, Value.slice nq nn nc, Value.slice lq ln lc, Value.bool re, Value.bool po] (138 : Nat))).heap.size, [((0 : Nat), Value.slice none (0 : Nat) (0 : Nat)), ((1 : Nat), Value.bool false), ((2 : Nat), Value.bool false), ((3 : Nat), Value.bool false), ((4 : Nat), Value.slice none (0 : Nat) (0 : Nat)), ((5 : Nat), Value.string { data := #[] }), ((6 : Nat), Value.string { data := #[] })])] [Value.slice mq mn mc, Value.bool op, Value.bool pz, Value.bool st, Value.slice wq wn wc, Value.string na, Value.string da, Value.int IntKind.i64 k, Value.string s, Value.slice dq dn dc, Value.int IntKind.i64 N, Value.slice kq kn kc, Value.int IntKind.i64 nm, Value.int IntKind.u8 fi, Value.int IntKind.i64 e, Value.slice aq an ac, Value.int IntKind.i64 z, Value.slice nq nn nc, Value.slice lq ln lc, Value.bool re, Value.bool po, Value.slice none (0 : Nat) (0 : Nat), Value.bool false, Value.bool false, Value.bool false, Value.slice none (0 : Nat) (0 : Nat), Value.string { data := #[] }, Value.string { data := #[] }] R := by kernel_rfl
def VCTryd96 (p0 : Option Addr) (n0 c0 : Nat) (w : World) (R : Ending → World → Prop) : Prop :=
 ∃ (I0 : Int → World → Prop), ∃ (I1 : Int → World → Nat), I0 (0 : Int) w ∧ ∀ (i2 : Int) (w3 : World), I0 i2 w3 → bif decide (i2 < (↑n0 : Int)) then
 bif decide (i2 < (100 : Int)) then
 ((0 : Int) ≤ i2 ∧ i2 < (↑n0 : Int)) ∧ SX.Ptr p0 fun (a4 : Addr) => ∃ (s5 : ByteArray), w3.cell? (((a4.add (i2.toNat * (16 : Nat))).add (0 : Nat)).add (1 : Nat)) = some (Value.string s5) ∧ bif decide ((↑s5.size : Int) > (300 : Int)) then
 R (Ending.returned (Value.bool true)) w3 else
 ((0 : Int) ≤ i2 ∧ i2 < (↑n0 : Int)) ∧ SX.Ptr p0 fun (a6 : Addr) => ∃ (q7 : Option Addr), ∃ (n8 : Nat), ∃ (n9 : Nat), w3.cell? (((a6.add (i2.toNat * (16 : Nat))).add (0 : Nat)).add (2 : Nat)) = some (Value.slice q7 n8 n9) ∧ bif decide ((↑n8 : Int) > (70000 : Int)) then
 R (Ending.returned (Value.bool true)) w3 else
 ((0 : Int) ≤ i2 ∧ i2 < (↑n0 : Int)) ∧ SX.Ptr p0 fun (a10 : Addr) => ∃ (q11 : Option Addr), ∃ (n12 : Nat), ∃ (n13 : Nat), w3.cell? (((a10.add (i2.toNat * (16 : Nat))).add (7 : Nat)).add (1 : Nat)) = some (Value.slice q11 n12 n13) ∧ bif decide ((↑n12 : Int) > (70000 : Int)) then
 R (Ending.returned (Value.bool true)) w3 else
 ((0 : Int) ≤ i2 ∧ i2 < (↑n0 : Int)) ∧ SX.Ptr p0 fun (a14 : Addr) => ∃ (q15 : Option Addr), ∃ (n16 : Nat), ∃ (n17 : Nat), w3.cell? (((a14.add (i2.toNat * (16 : Nat))).add (7 : Nat)).add (3 : Nat)) = some (Value.slice q15 n16 n17) ∧ bif decide ((↑n16 : Int) > (300 : Int)) then
 R (Ending.returned (Value.bool true)) w3 else
 ((0 : Int) ≤ i2 ∧ i2 < (↑n0 : Int)) ∧ SX.Ptr p0 fun (a18 : Addr) => ∃ (q19 : Option Addr), ∃ (n20 : Nat), ∃ (n21 : Nat), w3.cell? (((a18.add (i2.toNat * (16 : Nat))).add (7 : Nat)).add (4 : Nat)) = some (Value.slice q19 n20 n21) ∧ Rets Tryd.prog (82 : Nat) #[Value.slice q19 n20 n21] w3 fun (v22 : Value) (w23 : World) => ∃ (t24 : Bool), v22 = Value.bool t24 ∧ Keeps w3 w23 [] ∧ bif t24 then
 R (Ending.returned (Value.bool true)) w23 else
 ((0 : Int) ≤ i2 ∧ i2 < (↑n0 : Int)) ∧ SX.Ptr p0 fun (a25 : Addr) => ∃ (q26 : Option Addr), ∃ (n27 : Nat), ∃ (n28 : Nat), w23.cell? (((a25.add (i2.toNat * (16 : Nat))).add (14 : Nat)).add (1 : Nat)) = some (Value.slice q26 n27 n28) ∧ Rets Tryd.prog (82 : Nat) #[Value.slice q26 n27 n28] w23 fun (v29 : Value) (w30 : World) => ∃ (t31 : Bool), v29 = Value.bool t31 ∧ Keeps w23 w30 [] ∧ bif t31 then
 R (Ending.returned (Value.bool true)) w30 else
 Wr IntKind.i64 (i2 + (1 : Int)) fun (i32 : Int) => I0 i32 w30 ∧ I1 i32 w30 < I1 i2 w3 else
 R (Ending.returned (Value.bool (decide ((↑n0 : Int) > (60 : Int))))) w3 else
 R (Ending.returned (Value.bool (decide ((↑n0 : Int) > (60 : Int))))) w3
theorem vcTryd96 (p0 : Option Addr) (n0 c0 : Nat) (w : World) (R : Ending → World → Prop) : SX.vcFn Tryd.prog [(2, ⟨[(3, .int .i64)], [0], []⟩)] Tryd.f96 [.v (.slice p0 n0 c0)] [] w R =
 VCTryd96 p0 n0 c0 w  R := by kernel_rfl
end Go.Proofs.YtbpknjldphckgaaDoor

namespace Go.Proofs.YtbpknjldphckgaaDoor
open Go Go.SX Go.Proofs Go.Lib
set_option maxRecDepth 100000
set_option linter.unusedVariables false
set_option linter.unusedSimpArgs false
/-- States that are read, in the blocks of Q. -/
def SIn (w : World) (Q : Nat → Prop) (q : Option Addr) (n : Nat) (M : List (Bool × List Fil)) : Prop :=
  ∃ l : List Stx, l.map Stx.sta = M ∧ n = l.length ∧ StsAt w q l ∧ (0 < l.length → ∀ a, q = some a → Q a.block) ∧ ∀ y ∈ l, FIn w Q y.q y.L.length y.L
theorem SIn.rd {w : World} {Q : Nat → Prop} {q : Option Addr} {n : Nat} {M : List (Bool × List Fil)} (h : SIn w Q q n M) : SRd w q n M := by
  obtain ⟨l, h1, h2, h3, _⟩ := h
  exact ⟨l, h1, h2, h3⟩
theorem SIn.kp {S Q Q' : Nat → Prop} {w w' : World} {q : Option Addr} {n : Nat} {M : List (Bool × List Fil)} (h : SIn w Q q n M) (k : Kp S w w') (hs : ∀ i, i < w.heap.size → Q i → ¬ S i ∧ Q' i) : SIn w' Q' q n M := by
  obtain ⟨l, h1, h2, h3, h4, h5⟩ := h
  have hlt : ∀ a, q = some a → 0 < l.length → a.block < w.heap.size := fun a e h0 => by
    obtain ⟨x, e', m⟩ := h3 0 h0
    rw [e] at e'
    cases e'
    have := cell_lt m.c0
    simpa [add_block] using this
  refine ⟨l, h1, h2, fun i hi => ?_, fun h0 a e => (hs _ (hlt a e h0) (h4 h0 a e)).2, fun y hy => (h5 y hy).kp k hs⟩
  obtain ⟨x, e, m⟩ := h3 i hi
  have hb := (hs _ (hlt x e (by omega)) (h4 (by omega) x e)).1
  exact ⟨x, e, k.cell m.c0 (by rw [add_block, add_block]; exact hb), k.cell m.c1 (by rw [add_block, add_block]; exact hb), ((h5 _ (List.getElem_mem hi)).kp k hs).rd⟩
theorem SIn.mono {Q Q' : Nat → Prop} {w : World} {q : Option Addr} {n : Nat} {M : List (Bool × List Fil)} (h : SIn w Q q n M) (hs : ∀ i, i < w.heap.size → Q i → Q' i) : SIn w Q' q n M := h.kp (Kp.refl none_ w) fun i hl hi => ⟨id, hs i hl hi⟩
theorem elem146 : elemOk Tryd.prog 146 2 = true := by kernel_rfl
theorem und134 : Tryd.prog.underlying 134 = some (.slice 146) := Tryd.underlying134
/-- One state, laid in a block of its own. -/
theorem SIn.one {w' : World} {Q : Nat → Prop} (t : Bool) {q : Option Addr} {c : Nat} {L : List Fil} (hf : FIn w' Q q L.length L) {g : Nat} (h0 : w'.cell? ⟨g, 0, none⟩ = some (.bool t)) (h1 : w'.cell? ⟨g, 1, none⟩ = some (.slice q L.length c)) (hg : Q g) : SIn w' Q (some ⟨g, 0, none⟩) 1 [(t, L)] := by
  refine ⟨[⟨t, L, q, c⟩], rfl, rfl, fun i hi => ?_, fun _ a e => by cases e; exact hg, fun y hy => by rw [List.mem_singleton] at hy; subst hy; exact hf⟩
  have : i = 0 := by simpa using hi
  subst this
  refine ⟨_, rfl, ?_, ?_, hf.rd⟩
  · simpa [ad_add] using h0
  · simpa [ad_add] using h1
structure DIn (w : World) (Q : Nat → Prop) (x : Dx) : Prop where
  may : SIn w Q x.mq x.m.may.length x.m.may
  now : FIn w Q x.wq x.m.now.length x.m.now
theorem DIn.kp {S Q Q' : Nat → Prop} {w w' : World} {x : Dx} (h : DIn w Q x) (k : Kp S w w') (hs : ∀ i, i < w.heap.size → Q i → ¬ S i ∧ Q' i) : DIn w' Q' x := ⟨h.may.kp k hs, h.now.kp k hs⟩
/-- Its numbers are small. -/
structure DOk (m : MM) : Prop where
  may : m.may.length ≤ 1000000
  now : m.now.length ≤ 1000000
  all : ∀ y ∈ m.may, y.2.length ≤ 1000000
  dat : m.data.length ≤ 1000000
  asc : Asc Prod.fst m.now
theorem DIn.rd {w : World} {Q : Nat → Prop} {x : Dx} (h : DIn w Q x) (o : DOk x.m) : DRd w x := ⟨h.may.rd, h.now.rd, o.may, o.now, o.all, o.dat⟩
theorem setT {T : Nat → Prop} {w w' : World} (k : Kp T w w') {b i : Nat} (v : Value) (h : T b) : Kp T w (w'.setCell ⟨b, i, none⟩ v) := k.trans (Kp.setCell (Kp.refl T w') v (.inl h))
theorem seven {T : Nat → Prop} {w w' : World} (k : Kp T w w') {b : Nat} (h : T b) (v0 v1 v2 v3 v4 v5 v6 : Value) : Kp T w (((((((w'.setCell ⟨b, 0, none⟩ v0).setCell ⟨b, 1, none⟩ v1).setCell ⟨b, 2, none⟩ v2).setCell ⟨b, 3, none⟩ v3).setCell ⟨b, 4, none⟩ v4).setCell ⟨b, 5, none⟩ v5).setCell ⟨b, 6, none⟩ v6) := setT (setT (setT (setT (setT (setT (setT k v0 h) v1 h) v2 h) v3 h) v4 h) v5 h) v6 h
/-- A state that is laid beside what a function has. -/
theorem one_laid {T Q : Nat → Prop} {W w : World} (k : Kp T W w) (t : Bool) {q : Option Addr} {c : Nat} {L : List Fil} (hf : FIn w Q q L.length L) (hT : ∀ i, T i → i < W.heap.size) (hQ : ∀ i, W.heap.size ≤ i → Q i) (hQT : ∀ i, Q i → ¬ T i) {b i : Nat} {v : Value} (hb : T b) :
    SIn ((w.alloc (.cells #[.bool t, .slice q L.length c] 146)).setCell ⟨b, i, none⟩ v) Q (some ⟨w.heap.size, 0, none⟩) 1 [(t, L)] ∧ Kp T W ((w.alloc (.cells #[.bool t, .slice q L.length c] 146)).setCell ⟨b, i, none⟩ v) ∧ Kp T w ((w.alloc (.cells #[.bool t, .slice q L.length c] 146)).setCell ⟨b, i, none⟩ v) := by
  have ka : Kp none_ w (w.alloc (.cells #[.bool t, .slice q L.length c] 146)) := (Kp.refl none_ w).alloc1 _
  have ks : Kp T w ((w.alloc (.cells #[.bool t, .slice q L.length c] 146)).setCell ⟨b, i, none⟩ v) := setT ka.wide v hb
  have hne : ¬ T w.heap.size := fun h => by have := hT _ h; have := k.size; omega
  have B := Big.new w #[.bool t, .slice q L.length c] 146
  have kk := Kp.setCell (Kp.refl T (w.alloc (.cells #[.bool t, .slice q L.length c] 146))) (x := ⟨b, i, none⟩) v (.inl hb)
  refine ⟨SIn.one t (c := c) (hf.kp ks fun i _ hi => ⟨hQT i hi, hi⟩) (kk.cell (by rw [B.cell]; rfl) hne) (kk.cell (by rw [B.cell]; rfl) hne) (hQ _ k.size), k.trans ks, ks⟩
theorem c152 {w : World} {Q : Nat → Prop} (x y : Dx) (hx : DIn w Q x) (hy : DIn w Q y) (ok : DOk x.m) (hQ : ∀ i, Q i → i < w.heap.size) (o : Ox) (a : Ax) (ho : OpAt w o) (hol : o.d.length ≤ 1000000) (ha : FIn w Q a.lq a.L.length a.L) : Rets Tryd.prog 152 #[dV x, dV y, opV o, anV a] w fun v w' =>
    ∃ z : Dx, v = dV z ∧ z.m = doneM x.m y.m o.stp a.ans ∧ DIn w' (fun i => Q i ∨ w.heap.size ≤ i) z ∧ Kp none_ w w' := by
  refine ent [_, _, _, _] Tryd.func152 ((vcTryd152 x.mq x.m.may.length x.mc x.m.opn x.m.poisoned x.m.streaming x.wq x.m.now.length x.wc (ba x.m.name) (ba x.m.data) y.mq y.m.may.length y.mc y.m.opn y.m.poisoned y.m.streaming y.wq y.m.now.length y.wc (ba y.m.name) (ba y.m.data) o.k (ba o.s) o.dq o.d.length o.dc o.N o.kq o.kn o.kc o.nm o.fi a.e a.aq a.d.length a.ac a.z a.nq a.n.length a.nc a.lq a.L.length a.lc a.re a.po w _).mpr ?_)
  obtain ⟨ka, za⟩ := laidK w (dC x) 136
  unfold dC at ka za
  generalize w.alloc _ = W1 at *
  obtain ⟨kb, zb⟩ := laidK W1 (dC y) 136
  unfold dC at kb zb
  generalize W1.alloc _ = W2 at *
  obtain ⟨kc, zc⟩ := laidK W2 (opC o) 124
  unfold opC at kc zc
  generalize W2.alloc _ = W3 at *
  obtain ⟨kd, zd⟩ := laidK W3 (anC a) 138
  unfold anC at kd zd
  generalize W3.alloc _ = W4 at *
  obtain ⟨ke, ze⟩ := laidK W4 #[.slice none 0 0, .bool false, .bool false, .bool false, .slice none 0 0, .string { data := #[] }, .string { data := #[] }] 136
  generalize W4.alloc _ = W5 at *
  have kk := (((ka.trans kb).trans kc).trans kd).trans ke
  unfold VCTryd152
  let T : Nat → Prop := fun i => w.heap.size ≤ i ∧ i < W5.heap.size
  let Q' : Nat → Prop := fun i => Q i ∨ W5.heap.size ≤ i
  have hT : ∀ i, T i → i < W5.heap.size := fun i h => h.2
  have hQW : ∀ i, W5.heap.size ≤ i → Q' i := fun i h => .inr h
  have hQT : ∀ i, Q' i → ¬ T i := fun i h ht => by
    rcases h with h | h
    · have := hQ i h; have := ht.1; omega
    · have := ht.2; omega
  have T1 : T W1.heap.size := ⟨by omega, by omega⟩
  have T4 : T W4.heap.size := ⟨by omega, by omega⟩
  have up : ∀ {W w' : World} {z : Dx}, Kp T W w' → DIn W Q' z → DIn w' Q' z := fun k h => h.kp k fun i _ hi => ⟨hQT i hi, hi⟩
  have k5 : Kp T W5 W5 := Kp.refl _ _
  have y5 : DIn W5 Q' y := hy.kp kk fun i _ hi => ⟨id, .inl hi⟩
  have x5 : DIn W5 Q' x := hx.kp kk fun i _ hi => ⟨id, .inl hi⟩
  have a5 : FIn W5 Q' a.lq a.L.length a.L := ha.kp kk fun i _ hi => ⟨id, .inl hi⟩
  have upF : ∀ {W w' : World} {q : Option Addr} {n : Nat} {L : List Fil}, Kp T W w' → FIn W Q' q n L → FIn w' Q' q n L := fun k h => h.kp k fun i _ hi => ⟨hQT i hi, hi⟩
  have upS : ∀ {W w' : World} {q : Option Addr} {n : Nat} {L : List (Bool × List Fil)}, Kp T W w' → SIn W Q' q n L → SIn w' Q' q n L := fun k h => h.kp k fun i _ hi => ⟨hQT i hi, hi⟩
  have keepB : ∀ {w' : World}, Kp none_ W5 w' → Keeps W5 w' [w.heap.size, W1.heap.size, W2.heap.size, W3.heap.size, W4.heap.size] := fun k => k.keeps fun b hb => ⟨by simp at hb; omega, id⟩
  refine ⟨fun q1 n2 n3 t4 t5 t6 q7 n8 n9 s10 s11 w12 => ∃ z : Dx, z.m = doneM x.m y.m o.stp a.ans ∧ (.agg #[.slice q1 n2 n3, .bool t4, .bool t5, .bool t6, .slice q7 n8 n9, .string s10, .string s11] : Value) = dV z ∧ DIn w12 Q' z ∧ Kp T W5 w12, ?_, ?_⟩
  · rintro q1 n2 n3 t4 t5 t6 q7 n8 n9 s10 s11 w12 ⟨z, hz, e, hd, kz⟩ _ _
    have k7 := seven kz T4 (.slice q1 n2 n3) (.bool t4) (.bool t5) (.bool t6) (.slice q7 n8 n9) (.string s10) (.string s11)
    have k8 := seven (Kp.refl T w12) T4 (.slice q1 n2 n3) (.bool t4) (.bool t5) (.bool t6) (.slice q7 n8 n9) (.string s10) (.string s11)
    refine ⟨_, rfl, z, e, hz, (up k8 hd).kp (Kp.refl none_ _) fun i _ hi => ⟨id, hi.imp id fun h => by omega⟩, ?_⟩
    exact (kk.wide.trans (k7.mono fun i _ hi => hi.1)).narrow (Nat.le_refl _)
  have em : (ba ([] : List UInt8)) = { data := #[] } := rfl
  -- what was put, laid in n's row
  have wt : ∀ {w' : World} {q : Option Addr} {n c : Nat} {L : List Fil}, FIn w' (fun i => Q' i ∨ W5.heap.size ≤ i) q n L → Kp none_ W5 w' → FIn w' Q' q L.length L ∧ n = L.length := fun h k => by
    have hn := h.rd.len
    subst hn
    exact ⟨h.mono fun i _ hi => hi.elim id .inr, rfl⟩
  have D1 : o.k = 1 → doneM x.m y.m o.stp a.ans = { y.m with may := [(true, [])] } := fun e => by unfold doneM; rw [if_pos e]
  have D2 : o.k = 2 → doneM x.m y.m o.stp a.ans = { y.m with now := a.L, may := [(true, a.L)] } := fun e => by unfold doneM; rw [if_neg (by show ¬ o.k = 1; omega), if_pos e]
  have D3 : o.k = 3 → doneM x.m y.m o.stp a.ans = { y.m with now := withK Prod.fst x.m.now o.s (o.s, o.d) } := fun e => by unfold doneM; rw [if_neg (by show ¬ o.k = 1; omega), if_neg (by show ¬ o.k = 2; omega), if_pos e]
  have D4 : o.k = 4 → doneM x.m y.m o.stp a.ans = { y.m with streaming := true, name := o.s, data := [] } := fun e => by unfold doneM; simp [e]
  have D5 : o.k = 5 → doneM x.m y.m o.stp a.ans = { y.m with data := x.m.data ++ o.d } := fun e => by unfold doneM; simp [e]
  have D6 : o.k = 6 → doneM x.m y.m o.stp a.ans = { y.m with now := withK Prod.fst x.m.now x.m.name (x.m.name, x.m.data), streaming := false } := fun e => by unfold doneM; simp [e]
  have D7 : o.k = 7 → doneM x.m y.m o.stp a.ans = { y.m with streaming := false } := fun e => by unfold doneM; simp [e]
  have D11 : o.k = 11 → doneM x.m y.m o.stp a.ans = { y.m with now := withoutK Prod.fst x.m.now o.s } := fun e => by unfold doneM; simp [e]
  have D12 : (o.k = 12 ∨ o.k = 13 ∨ o.k = 14) → doneM x.m y.m o.stp a.ans = { y.m with may := [(true, x.m.now)] } := fun e => by
    unfold doneM
    rcases e with e | e | e <;> simp [e]
  have syn : ∀ {v : Value}, SIn ((W5.alloc (.cells #[.bool true, .slice x.wq x.m.now.length x.wc] 146)).setCell ⟨W1.heap.size, 0, none⟩ v) Q' (some ⟨W5.heap.size, 0, none⟩) 1 [(true, x.m.now)] ∧ Kp T W5 ((W5.alloc (.cells #[.bool true, .slice x.wq x.m.now.length x.wc] 146)).setCell ⟨W1.heap.size, 0, none⟩ v) ∧ Kp T W5 ((W5.alloc (.cells #[.bool true, .slice x.wq x.m.now.length x.wc] 146)).setCell ⟨W1.heap.size, 0, none⟩ v) := fun {v} => one_laid k5 true x5.now hT hQW hQT (v := v) T1
  refine bif_eq (fun h1 => ?_) fun h1 => bif_eq (fun h2 => ?_) fun h2 => bif_eq (fun h3 => ?_) fun h3 => bif_eq (fun h4 => ?_) fun h4 => bif_eq (fun h5 => ?_) fun h5 => bif_eq (fun h6 => ?_) fun h6 => bif_eq (fun h7 => ?_) fun h7 => bif_eq (fun h11 => ?_) fun h11 => bif_eq (fun h12 => bif_eq (fun _ => ?_) fun hh => absurd h12 hh) fun h12 => bif_eq (fun h13 => bif_eq (fun _ => ?_) fun hh => absurd h13 hh) fun h13 => bif_eq (fun h14 => ?_) fun h14 => ?_
  · obtain ⟨s1, kp1, kp2⟩ := one_laid (c := 0) k5 true (FIn.nil W5 Q' none) hT hQW hQT (b := W1.heap.size) (i := 0) (v := .slice (some ⟨W5.heap.size, 0, none⟩) 1 1) T1
    exact ⟨rfl, ⟨{ y.m with may := [(true, [])] }, some ⟨W5.heap.size, 0, none⟩, 1, y.wq, y.wc⟩, (D1 h1).symm, rfl, ⟨s1, (up kp1 y5).now⟩, kp1⟩
  · have kp0 : Kp T W5 (W5.setCell ⟨W1.heap.size, 4, none⟩ (.slice a.lq a.L.length a.lc)) := setT k5 _ T1
    have zz : (W5.setCell ⟨W1.heap.size, 4, none⟩ (.slice a.lq a.L.length a.lc)).heap.size = W5.heap.size := set_size _ _ _
    generalize W5.setCell ⟨W1.heap.size, 4, none⟩ (.slice a.lq a.L.length a.lc) = W6 at *
    obtain ⟨s1, kp1, kp2⟩ := one_laid (c := a.lc) kp0 true (upF kp0 a5) hT hQW hQT (b := W1.heap.size) (i := 0) (v := .slice (some ⟨W6.heap.size, 0, none⟩) 1 1) T1
    exact ⟨rfl, ⟨{ y.m with now := a.L, may := [(true, a.L)] }, some ⟨W6.heap.size, 0, none⟩, 1, a.lq, a.lc⟩, (D2 h2).symm, rfl, ⟨s1, upF kp1 a5⟩, kp1⟩
  · refine ⟨ba o.d, ba_size _, (ho.kp0 kk).dat, fun _ => (c91 x5.now ok.now ok.asc o.s o.d (by omega)).mono ?_⟩
    rintro v w7 ⟨q, n, c, rfl, f7, k7⟩
    obtain ⟨g7, rfl⟩ := wt (c := c) f7 k7
    have kp1 : Kp T W5 (w7.setCell ⟨W1.heap.size, 4, none⟩ (.slice q (withK Prod.fst x.m.now o.s (o.s, o.d)).length c)) := setT k7.wide _ T1
    have kp2 : Kp T w7 (w7.setCell ⟨W1.heap.size, 4, none⟩ (.slice q (withK Prod.fst x.m.now o.s (o.s, o.d)).length c)) := setT (Kp.refl _ _) _ T1
    exact ⟨_, _, _, rfl, keepB k7, rfl, ⟨{ y.m with now := withK Prod.fst x.m.now o.s (o.s, o.d) }, y.mq, y.mc, q, c⟩, (D3 h3).symm, rfl, ⟨(up kp1 y5).may, upF kp2 g7⟩, kp1⟩
  · have kp1 : Kp T W5 (((W5.setCell ⟨W1.heap.size, 3, none⟩ (.bool true)).setCell ⟨W1.heap.size, 5, none⟩ (.string (ba o.s))).setCell ⟨W1.heap.size, 6, none⟩ (.string { data := #[] })) := setT (setT (setT k5 _ T1) _ T1) _ T1
    exact ⟨rfl, ⟨{ y.m with streaming := true, name := o.s, data := [] }, y.mq, y.mc, y.wq, y.wc⟩, (D4 h4).symm, rfl, ⟨(up kp1 y5).may, (up kp1 y5).now⟩, kp1⟩
  · have hdd := ok.dat
    refine ⟨ba o.d, ba_size _, (ho.kp0 kk).dat, by rw [ba_size, ba_size]; omega, ?_⟩
    rw [ba_app]
    have kp1 : Kp T W5 (W5.setCell ⟨W1.heap.size, 6, none⟩ (.string (ba (x.m.data ++ o.d)))) := setT k5 _ T1
    exact ⟨rfl, ⟨{ y.m with data := x.m.data ++ o.d }, y.mq, y.mc, y.wq, y.wc⟩, (D5 h5).symm, rfl, ⟨(up kp1 y5).may, (up kp1 y5).now⟩, kp1⟩
  · intro _
    refine (c91 x5.now ok.now ok.asc x.m.name x.m.data (by have := ok.dat; omega)).mono ?_
    rintro v w7 ⟨q, n, c, rfl, f7, k7⟩
    obtain ⟨g7, rfl⟩ := wt (c := c) f7 k7
    have kp2 : Kp T w7 ((w7.setCell ⟨W1.heap.size, 4, none⟩ (.slice q (withK Prod.fst x.m.now x.m.name (x.m.name, x.m.data)).length c)).setCell ⟨W1.heap.size, 3, none⟩ (.bool false)) := setT (setT (Kp.refl _ _) _ T1) _ T1
    have kp1 := (k7.wide (S := T)).trans kp2
    exact ⟨_, _, _, rfl, keepB k7, rfl, ⟨{ y.m with now := withK Prod.fst x.m.now x.m.name (x.m.name, x.m.data), streaming := false }, y.mq, y.mc, q, c⟩, (D6 h6).symm, rfl, ⟨(up kp1 y5).may, upF kp2 g7⟩, kp1⟩
  · have kp1 : Kp T W5 (W5.setCell ⟨W1.heap.size, 3, none⟩ (.bool false)) := setT k5 _ T1
    exact ⟨rfl, ⟨{ y.m with streaming := false }, y.mq, y.mc, y.wq, y.wc⟩, (D7 h7).symm, rfl, ⟨(up kp1 y5).may, (up kp1 y5).now⟩, kp1⟩
  · intro _
    refine (c92 x5.now ok.now (ba o.s)).mono ?_
    rw [bytesL_ba]
    rintro v w7 ⟨q, n, c, rfl, f7, k7⟩
    obtain ⟨g7, rfl⟩ := wt (c := c) f7 k7
    have kp2 : Kp T w7 (w7.setCell ⟨W1.heap.size, 4, none⟩ (.slice q (withoutK Prod.fst x.m.now o.s).length c)) := setT (Kp.refl _ _) _ T1
    have kp1 := (k7.wide (S := T)).trans kp2
    exact ⟨_, _, _, rfl, keepB k7, rfl, ⟨{ y.m with now := withoutK Prod.fst x.m.now o.s }, y.mq, y.mc, q, c⟩, (D11 h11).symm, rfl, ⟨(up kp1 y5).may, upF kp2 g7⟩, kp1⟩
  · obtain ⟨s1, kp1, _⟩ := syn (v := .slice (some ⟨W5.heap.size, 0, none⟩) 1 1)
    exact ⟨rfl, ⟨{ y.m with may := [(true, x.m.now)] }, some ⟨W5.heap.size, 0, none⟩, 1, y.wq, y.wc⟩, (D12 (.inl h12)).symm, rfl, ⟨s1, (up kp1 y5).now⟩, kp1⟩
  · obtain ⟨s1, kp1, _⟩ := syn (v := .slice (some ⟨W5.heap.size, 0, none⟩) 1 1)
    exact ⟨rfl, ⟨{ y.m with may := [(true, x.m.now)] }, some ⟨W5.heap.size, 0, none⟩, 1, y.wq, y.wc⟩, (D12 (.inr (.inl h13))).symm, rfl, ⟨s1, (up kp1 y5).now⟩, kp1⟩
  · obtain ⟨s1, kp1, _⟩ := syn (v := .slice (some ⟨W5.heap.size, 0, none⟩) 1 1)
    exact ⟨rfl, ⟨{ y.m with may := [(true, x.m.now)] }, some ⟨W5.heap.size, 0, none⟩, 1, y.wq, y.wc⟩, (D12 (.inr (.inr h14))).symm, rfl, ⟨s1, (up kp1 y5).now⟩, kp1⟩
  · have hd : doneM x.m y.m o.stp a.ans = y.m := by unfold doneM; simp [*]
    exact ⟨rfl, y, hd.symm, rfl, y5, k5⟩
end Go.Proofs.YtbpknjldphckgaaDoor

namespace Go.Proofs.YtbpknjldphckgaaDoor
open Go Go.SX Go.Proofs Go.Lib
set_option maxRecDepth 100000
set_option linter.unusedVariables false
set_option linter.unusedSimpArgs false
theorem sts_own {w : World} {own : Nat → Prop} {e : TypeId} {q : Option Addr} {n c : Nat} {l : List Stx} (h2 : OwnRow w own e 2 (.slice q n c) l.length (stsC l)) (hr : ∀ y ∈ l, FRd w y.q y.L.length y.L) : StsAt w q l := fun i hi => by
  have at_ : ∀ k u, k < 2 → (stC l[i])[k]? = some u → ∃ a, q = some a ∧ w.cell? (a.add (i * 2 + k)) = some u := fun k u hk hu => h2.at (by rw [stsC_get l i hi k hk]; exact hu)
  obtain ⟨a, e, c0⟩ := at_ 0 _ (by omega) rfl
  have go : ∀ k u, k < 2 → (stC l[i])[k]? = some u → w.cell? ((a.add (i * 2)).add k) = some u := fun k u hk hu => by
    obtain ⟨a', e', c⟩ := at_ k u hk hu
    rw [e] at e'
    cases e'
    rw [add_add]
    exact c
  exact ⟨a, e, go 0 _ (by omega) rfl, go 1 _ (by omega) rfl, hr _ (List.getElem_mem hi)⟩
theorem sin_own {w : World} {own Q : Nat → Prop} {q : Option Addr} {n c : Nat} {l : List Stx} (h : OwnRow w own 146 2 (.slice q n c) l.length (stsC l)) (ho : ∀ i, own i → Q i) (hf : ∀ y ∈ l, FIn w Q y.q y.L.length y.L) : SIn w Q q n (l.map Stx.sta) := by
  have hn := h.lens.1
  refine ⟨l, rfl, hn, sts_own h fun y hy => (hf y hy).rd, fun h0 a e => ?_, hf⟩
  obtain ⟨g, _, e', _, hg, _⟩ := h.parts h0
  rw [e] at e'
  cases e'
  exact ho _ hg
theorem stsC_len (l : List Stx) : (stsC l).length = l.length * 2 := by
  induction l with
  | nil => rfl
  | cons b r ih => simp only [stsC, List.length_append, ih, List.length_cons, stC]; simp; omega
theorem stsC_one (l : List Stx) : ∀ u ∈ stsC l, u.oneCell' = true := by
  induction l with
  | nil => intro u hu; cases hu
  | cons b r ih =>
    intro u hu
    rw [stsC] at hu
    rcases List.mem_append.1 hu with hu | hu
    · simp only [stC, List.mem_cons, List.not_mem_nil, or_false] at hu
      rcases hu with rfl | rfl <;> simp [Value.oneCell']
    · exact ih u hu
theorem sts_cells {w : World} {l : List Stx} {a : Addr} (h : StsAt w (some a) l) {j : Nat} {u : Value} (hu : (stsC l)[j]? = some u) : w.cell? (a.add j) = some u := by
  have hj : j < l.length * 2 := by rw [← stsC_len]; exact (List.getElem?_eq_some_iff.1 hu).1
  have hi : j / 2 < l.length := by omega
  obtain ⟨x, e, m⟩ := h (j / 2) hi
  cases e
  have ej : j / 2 * 2 + j % 2 = j := by omega
  have hk : (stsC l)[j / 2 * 2 + j % 2]? = (stC l[j / 2])[j % 2]? := stsC_get l (j / 2) hi (j % 2) (by omega)
  rw [ej, hu] at hk
  rcases Nat.mod_two_eq_zero_or_one j with h0 | h1
  · have ec := m.c0
    rw [h0] at hk
    have : u = .bool (l[j / 2]).t := by simpa [stC] using hk
    subst this
    rw [add_add] at ec
    have : j / 2 * 2 + 0 = j := by omega
    rwa [this] at ec
  · have ec := m.c1
    rw [h1] at hk
    have : u = .slice (l[j / 2]).q (l[j / 2]).L.length (l[j / 2]).c := by simpa [stC] using hk
    subst this
    rw [add_add] at ec
    have : j / 2 * 2 + 1 = j := by omega
    rwa [this] at ec
/-- 'append([]S{}, l...)' -/
theorem app_sts {w : World} {own : Nat → Prop} {v : Value} (hown : OwnRow w own 146 2 v 0 []) {q : Option Addr} {n c : Nat} {l : List Stx} (h : StsAt w q l) (hn : n = l.length) (hl : l.length ≤ 1000000) {K : Value → World → Prop}
    (hK : ∀ q' c' w', OwnRow w' (fun i => own i ∨ fresh w i) 146 2 (.slice q' l.length c') l.length (stsC l) → Kp own w w' → K (.slice q' l.length c') w') : Runs Tryd.prog (Builtin.append_ #[134, 134] 134 #[v, .slice q n c]) w K := by
  subst hn
  by_cases h0 : l.length = 0
  · have : l = [] := List.length_eq_zero_iff.1 h0
    subst this
    obtain ⟨i, z, hi, _⟩ := elemOk_spec elem146
    obtain ⟨q', c', rfl⟩ := hown.slice
    exact ⟨_, _, append_zero und134 ⟨i, hi⟩ hown q c, hK _ _ _ (hown.mono fun i hi _ => .inl hi) (Kp.refl _ _)⟩
  · obtain ⟨a, rfl, _⟩ := h 0 (by omega)
    refine append_own (own := own) (xs := []) (news := stsC l) und134 elem146 (by omega) hown (stsC_len l) (fun j u hu => sts_cells h hu) (stsC_one l) (by omega) (by omega) fun v' w' hr hk => ?_
    obtain ⟨q', c', rfl⟩ := hr.slice
    have e := hr.lens.1
    rw [e] at hr ⊢
    rw [Nat.zero_add] at hr ⊢
    exact hK q' c' w' hr hk
theorem push_st {w : World} {own : Nat → Prop} {v : Value} {l : List Stx} {n : Nat} (b : Stx) {K : Value → World → Prop} (hrow : OwnRow w own 146 2 v n (stsC l)) (hn : n = l.length) (hb : l.length ≤ 1000000)
    (hK : ∀ q' c' w', OwnRow w' (fun i => own i ∨ fresh w i) 146 2 (.slice q' (l ++ [b]).length c') (l ++ [b]).length (stsC (l ++ [b])) → Kp own w w' → Kp own (w.alloc (.cells #[.bool b.t, .slice b.q b.L.length b.c] 146)) w' → K (.slice q' (l ++ [b]).length c') w') :
    Runs Tryd.prog (Builtin.append_ #[134, 134] 134 #[v, .slice (some ⟨w.heap.size, 0, none⟩) 1 1]) (w.alloc (.cells #[.bool b.t, .slice b.q b.L.length b.c] 146)) K := by
  subst hn
  have e : (l ++ [b]).length = l.length + 1 := by simp
  rw [e] at hK
  refine append_new (own := own) (xs := stsC l) #[.bool b.t, .slice b.q b.L.length b.c] und134 elem146 (by omega) hrow rfl (fun u hu => by simp at hu; rcases hu with rfl | rfl <;> simp [Value.oneCell']) (by omega) fun q' c' w' r k1 k2 => hK q' c' w' ?_ k1 k2
  rw [stsC_app]
  simpa [stsC, stC] using r
theorem c100 {w : World} {Q : Nat → Prop} (x : Dx) (hx : DIn w Q x) (ok : DOk x.m) (hQ : ∀ i, Q i → i < w.heap.size) (o : Ox) (a : Ax) (ho : OpAt w o) (hol : o.d.length ≤ 1000000) (ha : FIn w Q a.lq a.L.length a.L) : Rets Tryd.prog 100 #[dV x, opV o, anV a] w fun v w' =>
    ∃ z : Dx, v = dV z ∧ z.m = stepM x.m o.stp a.ans ∧ DIn w' (fun i => Q i ∨ w.heap.size ≤ i) z ∧ Kp none_ w w' := by
  refine ent [_, _, _] Tryd.func100 ((vcTryd100 x.mq x.m.may.length x.mc x.m.opn x.m.poisoned x.m.streaming x.wq x.m.now.length x.wc (ba x.m.name) (ba x.m.data) o.k (ba o.s) o.dq o.d.length o.dc o.N o.kq o.kn o.kc o.nm o.fi a.e a.aq a.d.length a.ac a.z a.nq a.n.length a.nc a.lq a.L.length a.lc a.re a.po w _).mpr ?_)
  obtain ⟨ka, za⟩ := laidK w (dC x) 136
  unfold dC at ka za
  generalize w.alloc _ = W1 at *
  obtain ⟨kb, zb⟩ := laidK W1 (opC o) 124
  unfold opC at kb zb
  generalize W1.alloc _ = W2 at *
  obtain ⟨kc, zc⟩ := laidK W2 (anC a) 138
  unfold anC at kc zc
  generalize W2.alloc _ = W3 at *
  obtain ⟨kd, zd⟩ := laidK W3 #[.slice none 0 0, .bool false, .bool false, .bool false, .slice none 0 0, .string { data := #[] }, .string { data := #[] }] 136
  generalize W3.alloc _ = W4 at *
  obtain ⟨ke, ze⟩ := laidK W4 #[.slice none 0 0, .bool false, .bool false, .bool false, .slice none 0 0, .string { data := #[] }, .string { data := #[] }] 136
  generalize W4.alloc _ = W5 at *
  have kk := (((ka.trans kb).trans kc).trans kd).trans ke
  unfold VCTryd100
  let T : Nat → Prop := fun i => w.heap.size ≤ i ∧ i < W5.heap.size
  let Q' : Nat → Prop := fun i => Q i ∨ W5.heap.size ≤ i
  have hQT : ∀ i, Q' i → ¬ T i := fun i h ht => by
    rcases h with h | h
    · have := hQ i h; have := ht.1; omega
    · have := ht.2; omega
  have hT : ∀ i, T i → i < W5.heap.size := fun i h => h.2
  have hQW : ∀ i, W5.heap.size ≤ i → Q' i := fun i h => .inr h
  have T3 : T W3.heap.size := ⟨by omega, by omega⟩
  have T4 : T W4.heap.size := ⟨by omega, by omega⟩
  have up : ∀ {W w' : World} {z : Dx}, Kp T W w' → DIn W Q' z → DIn w' Q' z := fun k h => h.kp k fun i _ hi => ⟨hQT i hi, hi⟩
  have k5 : Kp T W5 W5 := Kp.refl _ _
  have x5 : DIn W5 Q' x := hx.kp kk fun i _ hi => ⟨id, .inl hi⟩
  have a5 : FIn W5 Q' a.lq a.L.length a.L := ha.kp kk fun i _ hi => ⟨id, .inl hi⟩
  have upF : ∀ {W w' : World} {q : Option Addr} {n : Nat} {L : List Fil}, Kp T W w' → FIn W Q' q n L → FIn w' Q' q n L := fun k h => h.kp k fun i _ hi => ⟨hQT i hi, hi⟩
  have keepB : ∀ {W w' : World}, W5.heap.size ≤ W.heap.size → Kp none_ W w' → Keeps W w' [w.heap.size, W1.heap.size, W2.heap.size, W3.heap.size, W4.heap.size] := fun z k => k.keeps fun b hb => ⟨by simp at hb; omega, id⟩
  have ends : ∀ {w' : World}, Kp T W5 w' → Kp none_ w w' := fun k => (kk.wide.trans (k.mono fun i _ hi => hi.1)).narrow (Nat.le_refl _)
  let P : MM → Option Addr → Nat → Nat → Bool → Bool → Bool → Option Addr → Nat → Nat → ByteArray → ByteArray → World → Prop := fun D q1 n2 n3 t4 t5 t6 q7 n8 n9 s10 s11 w12 => ∃ z : Dx, z.m = D ∧ (.agg #[.slice q1 n2 n3, .bool t4, .bool t5, .bool t6, .slice q7 n8 n9, .string s10, .string s11] : Value) = dV z ∧ DIn w12 Q' z ∧ Kp T W5 w12
  have outQ : ∀ {w' : World} {z : Dx}, DIn w' Q' z → DIn w' (fun i => Q i ∨ w.heap.size ≤ i) z := fun h => h.kp (Kp.refl none_ _) fun i _ hi => ⟨id, hi.imp id fun h => by omega⟩
  have k6 : Kp T W5 ((((((((W5.setCell ⟨W4.heap.size, 0, none⟩ (.slice x.mq x.m.may.length x.mc)).setCell ⟨W4.heap.size, 1, none⟩ (.bool x.m.opn)).setCell ⟨W4.heap.size, 2, none⟩ (.bool x.m.poisoned)).setCell ⟨W4.heap.size, 3, none⟩ (.bool x.m.streaming)).setCell ⟨W4.heap.size, 4, none⟩ (.slice x.wq x.m.now.length x.wc)).setCell ⟨W4.heap.size, 5, none⟩ (.string (ba x.m.name))).setCell ⟨W4.heap.size, 6, none⟩ (.string (ba x.m.data))).setCell ⟨W4.heap.size, 2, none⟩ (.bool a.po)) := setT (seven k5 T4 _ _ _ _ _ _ _) _ T4
  generalize (((((((W5.setCell ⟨W4.heap.size, 0, none⟩ (.slice x.mq x.m.may.length x.mc)).setCell ⟨W4.heap.size, 1, none⟩ (.bool x.m.opn)).setCell ⟨W4.heap.size, 2, none⟩ (.bool x.m.poisoned)).setCell ⟨W4.heap.size, 3, none⟩ (.bool x.m.streaming)).setCell ⟨W4.heap.size, 4, none⟩ (.slice x.wq x.m.now.length x.wc)).setCell ⟨W4.heap.size, 5, none⟩ (.string (ba x.m.name))).setCell ⟨W4.heap.size, 6, none⟩ (.string (ba x.m.data))).setCell ⟨W4.heap.size, 2, none⟩ (.bool a.po) = W6 at *
  intro _
  refine (c151 x o a).mono ?_
  rintro v w1 ⟨rfl, k1⟩
  have kp1 := k6.trans (k1.wide (S := T))
  refine ⟨_, rfl, keepB k6.size k1, P { x.m with poisoned := a.po, opn := openM x.m o.stp a.ans, streaming := if openM x.m o.stp a.ans = false then false else x.m.streaming, now := if openM x.m o.stp a.ans = false then [] else x.m.now }, ?_, ?_⟩
  · rintro q4 n5 n6 t7 t8 t9 q10 n11 n12 s13 s14 w15 ⟨z, hz, ez, dz, kz⟩ _
    refine ⟨P (baseM x.m o.stp a.ans), ?_, ?_⟩
    · rintro q17 n18 n19 t20 t21 t22 q23 n24 n25 s26 s27 w28 ⟨z, hz, ez, dz, kz⟩ _
      refine ⟨fun q1 n2 n3 t4 t5 t6 q7 n8 n9 s10 s11 w12 => P (baseM x.m o.stp a.ans) q1 n2 n3 t4 t5 t6 q7 n8 n9 s10 s11 w12 ∧ a.re = false, ?_, ?_⟩
      · rintro q30 n31 n32 t33 t34 t35 q36 n37 n38 s39 s40 w41 ⟨⟨z, hz, ez, dz, kz⟩, hre⟩ _
        have hre' : ¬ a.ans.refused = true := by show ¬ a.re = true; rw [hre]; decide
        refine bif_eq (fun he _ => ?_) (fun he _ => ⟨_, rfl, z, ez, ?_, outQ (up (seven (Kp.refl T w41) T3 _ _ _ _ _ _ _) dz), ends (seven kz T3 _ _ _ _ _ _ _)⟩)
        · rw [ez]
          have sz := kz.size
          have dzc : DIn w41 (fun i => Q' i ∧ i < w41.heap.size) z := dz.kp (Kp.refl none_ _) fun i hl hi => ⟨id, hi, hl⟩
          have dxc : DIn w41 (fun i => Q' i ∧ i < w41.heap.size) x := (up kz x5).kp (Kp.refl none_ _) fun i hl hi => ⟨id, hi, hl⟩
          have ac : FIn w41 (fun i => Q' i ∧ i < w41.heap.size) a.lq a.L.length a.L := (upF kz a5).kp (Kp.refl none_ _) fun i hl hi => ⟨id, hi, hl⟩
          have hok : OpAt w41 o := ho.kp0 (ends kz)
          refine (c152 x z dxc dzc ok (fun i hi => hi.2) o a hok hol ac).mono ?_
          rintro v w43 ⟨y, rfl, hy, dy, k43⟩
          have dy' : DIn w43 Q' y := dy.kp (Kp.refl none_ _) fun i hl hi => ⟨id, by rcases hi with hi | hi; exact hi.1; exact .inr (by omega)⟩
          refine ⟨_, _, _, _, _, _, _, _, _, _, _, rfl, keepB sz k43, fun _ => ⟨_, rfl, y, rfl, ?_, outQ (up (seven (Kp.refl T w43) T3 _ _ _ _ _ _ _) dy'), ends (seven (kz.trans k43.wide) T3 _ _ _ _ _ _ _)⟩⟩
          rw [hy, hz]
          unfold stepM
          rw [if_neg hre', if_pos he]
        · rw [hz]
          unfold stepM
          rw [if_neg hre', if_neg he]
      · refine bif_b (fun hre => ?_) (fun hre => ⟨rfl, ⟨z, hz, ez, dz, kz⟩, hre⟩)
        have sz := kz.size
        have hre' : a.ans.refused = true := hre
        have dzc : DIn w28 (fun i => Q' i ∧ i < w28.heap.size) z := dz.kp (Kp.refl none_ _) fun i hl hi => ⟨id, hi, hl⟩
        obtain ⟨i146, z146, hi146, _⟩ := elemOk_spec elem146
        refine lit_own (size := 2) und134 ⟨i146, hi146⟩ fun w56 o56 k56 => ?_
        refine ⟨_, _, _, rfl, keepB sz k56, ?_⟩
        have xm := ((up kz x5).kp k56 (Q' := Q') fun i _ hi => ⟨id, hi⟩).may
        obtain ⟨l, lm, ln, lr, lq, lf⟩ := xm
        have hlen : l.length ≤ 1000000 := by rw [← ln]; exact ok.may
        refine app_sts o56 lr ln hlen fun q62 c64 w61 o61 k61 => ?_
        have z56 := k56.size
        have K61 : Kp none_ w28 w61 := (k56.wide.trans k61).narrow (Nat.le_refl _)
        have k61n : Keeps w56 w61 [w.heap.size, W1.heap.size, W2.heap.size, W3.heap.size, W4.heap.size] := k61.keeps fun b hb => ⟨by simp at hb; omega, fun hh => by have hh : w28.heap.size ≤ b := hh; simp at hb; omega⟩
        have z61 := K61.size
        have own61 : OwnRow w61 (fun i => w28.heap.size ≤ i) 146 2 (.slice q62 l.length c64) l.length (stsC l) := o61.mono fun i hi _ => by
          rcases hi with hi | hi
          · exact hi
          · have hi : w56.heap.size ≤ i := hi
            omega
        have lf61 : ∀ y ∈ l, FIn w61 (fun i => Q' i ∧ i < w28.heap.size) y.q y.L.length y.L := by
          have xm2 := ((up kz x5).may.kp (Kp.refl none_ _) (Q' := fun i => Q' i ∧ i < w28.heap.size) fun i hl hi => ⟨id, hi, hl⟩).kp K61 fun i hl hi => ⟨id, hi⟩
          obtain ⟨l2, lm2, ln2, lr2, lq2, lf2⟩ := xm2
          have el : l2 = l := by
            apply List.ext_getElem
            · have := congrArg List.length lm; have := congrArg List.length lm2; simp at *; omega
            · intro i h1 h2
              obtain ⟨a1, e1, m1⟩ := lr i h2
              obtain ⟨a2, e2, m2⟩ := lr2 i h1
              rw [e1] at e2
              cases e2
              have u1 := k61.cell m1.c0 (fun hh => by
                have hh : w28.heap.size ≤ _ := hh
                have := lq (by omega) a1 e1
                rw [add_block, add_block] at hh
                have hb := lq2 (by omega) a1 e1
                have := hb.2
                omega)
              have u2 := k61.cell m1.c1 (fun hh => by
                have hh : w28.heap.size ≤ _ := hh
                rw [add_block, add_block] at hh
                have hb := lq2 (by omega) a1 e1
                have := hb.2
                omega)
              have v1 := m2.c0
              have v2 := m2.c1
              rw [u1] at v1
              rw [u2] at v2
              have g1 : (l2[i]).sta = (l[i]).sta := by
                have := congrArg (·[i]?) (lm2.trans lm.symm)
                simp only [List.getElem?_map, List.getElem?_eq_getElem h1, List.getElem?_eq_getElem h2, Option.map_some, Option.some.injEq] at this
                exact this
              generalize l2[i] = p at *
              generalize l[i] = q at *
              obtain ⟨pt, pL, pq, pc⟩ := p
              obtain ⟨qt, qL, qq, qc⟩ := q
              simp [Stx.sta] at g1 v1 v2
              simp [g1, v2]
          rw [el] at lf2
          exact lf2
        have lfQ : ∀ {w' : World} {S : Nat → Prop}, Kp S w61 w' → (∀ i, S i → w28.heap.size ≤ i ∨ T i) → ∀ y ∈ l, FIn w' Q' y.q y.L.length y.L := fun k hS y hy => (lf61 y hy).kp k fun i hl hi => ⟨fun hs => by rcases hS i hs with h | h; have := hi.2; omega; exact hQT i hi.1 h, hi.1⟩
        have dz61 : DIn w61 (fun i => Q' i ∧ i < w28.heap.size) z := dzc.kp K61 fun i _ hi => ⟨id, hi⟩
        have kz61 : Kp T W5 w61 := kz.trans K61.wide
        have ml : l.map Stx.sta = x.m.may := lm
        refine ⟨_, _, _, rfl, k61n, fun q1 n2 n3 t4 t5 t6 q7 n8 n9 s10 s11 w12 => if o.k = 1 then P { baseM x.m o.stp a.ans with may := x.m.may ++ [(true, [])] } q1 n2 n3 t4 t5 t6 q7 n8 n9 s10 s11 w12 else w12 = w61 ∧ (.agg #[.slice q1 n2 n3, .bool t4, .bool t5, .bool t6, .slice q7 n8 n9, .string s10, .string s11] : Value) = dV z, ?_, ?_⟩
        · intro q66 n67 n68 t69 t70 t71 q72 n73 n74 s75 s76 w77 h65 _
          refine ⟨P (stepM x.m o.stp a.ans), ?_, ?_⟩
          · rintro q79 n80 n81 t82 t83 t84 q85 n86 n87 s88 s89 w90 ⟨y, hy, ey, dy, ky⟩ _ _
            exact ⟨_, rfl, y, ey, hy, outQ (up (seven (Kp.refl T w90) T3 _ _ _ _ _ _ _) dy), ends (seven ky T3 _ _ _ _ _ _ _)⟩
          · have stay : ¬ (12 ≤ o.k ∧ o.k ≤ 14) → P (stepM x.m o.stp a.ans) q66 n67 n68 t69 t70 t71 q72 n73 n74 s75 s76 w77 := fun hk => by
              by_cases h1 : o.k = 1
              · rw [if_pos h1] at h65
                have e : stepM x.m o.stp a.ans = { baseM x.m o.stp a.ans with may := x.m.may ++ [(true, [])] } := by
                  unfold stepM
                  rw [if_pos hre', if_neg (show ¬ (12 ≤ o.k ∧ o.k ≤ 14) from hk), if_pos (show o.k = 1 from h1)]
                rw [e]
                exact h65
              · rw [if_neg h1] at h65
                obtain ⟨rfl, ev⟩ := h65
                have e : stepM x.m o.stp a.ans = baseM x.m o.stp a.ans := by
                  unfold stepM
                  rw [if_pos hre', if_neg (show ¬ (12 ≤ o.k ∧ o.k ≤ 14) from hk), if_neg (show ¬ o.k = 1 from h1)]
                rw [e]
                exact ⟨z, hz, ev, dz61.kp (Kp.refl none_ _) fun i _ hi => ⟨id, hi.1⟩, kz61⟩
            refine bif_dec (fun hk12 => bif_dec (fun hk14 => ?_) (fun hk14 => ⟨rfl, stay (by omega)⟩)) (fun hk12 => ⟨rfl, stay (by omega)⟩)
            rw [if_neg (by omega)] at h65
            obtain ⟨rfl, ev⟩ := h65
            refine push_st ⟨true, x.m.now, x.wq, x.wc⟩ own61 rfl hlen fun q93 c95 w92 r92 k92 k92' => ?_
            have za9 : (w77.alloc (.cells #[.bool true, .slice x.wq x.m.now.length x.wc] 146)).heap.size = w77.heap.size + 1 := alloc_size _ _
            have kT : Kp T W5 w92 := kz.trans ((K61.wide (S := fun i => w28.heap.size ≤ i)).trans k92 |>.narrow (Nat.le_refl _)).wide
            refine ⟨_, _, _, rfl, k92'.keeps fun b hb => ⟨by simp at hb; show b < (w77.alloc (.cells #[.bool true, .slice x.wq x.m.now.length x.wc] 146)).heap.size; omega, fun hh => by have hh : w28.heap.size ≤ b := hh; simp at hb; omega⟩, rfl, ?_⟩
            have ks : Kp T w92 (w92.setCell ⟨W4.heap.size, 0, none⟩ (.slice q93 (l ++ [(⟨true, x.m.now, x.wq, x.wc⟩ : Stx)]).length c95)) := setT (Kp.refl T w92) _ T4
            have sin : SIn w92 Q' q93 (l ++ [(⟨true, x.m.now, x.wq, x.wc⟩ : Stx)]).length ((l ++ [(⟨true, x.m.now, x.wq, x.wc⟩ : Stx)]).map Stx.sta) := sin_own r92 (fun i hi => by
              rcases hi with hi | hi
              · exact .inr (by have hi : w28.heap.size ≤ i := hi; omega)
              · exact .inr (by have hi : w77.heap.size ≤ i := hi; omega)) fun y hy => by
              rcases List.mem_append.1 hy with hy | hy
              · exact lfQ k92 (fun i hi => .inl hi) y hy
              · rw [List.mem_singleton] at hy
                subst hy
                have x28 : FIn w28 (fun i => Q' i ∧ i < w28.heap.size) x.wq x.m.now.length x.m.now := (up kz x5).now.kp (Kp.refl none_ _) fun i hl hi => ⟨id, hi, hl⟩
                exact (x28.kp K61 fun i _ hi => ⟨id, hi⟩).kp k92 fun i hl hi => ⟨fun hh => by have hh : w28.heap.size ≤ i := hh; have := hi.2; omega, hi.1⟩
            have dz92 : DIn w92 Q' z := dz61.kp k92 fun i hl hi => ⟨fun hh => by have hh : w28.heap.size ≤ i := hh; have := hi.2; omega, hi.1⟩
            have el : (l ++ [(⟨true, x.m.now, x.wq, x.wc⟩ : Stx)]).map Stx.sta = x.m.may ++ [(true, x.m.now)] := by rw [List.map_append, ml]; rfl
            have en : (l ++ [(⟨true, x.m.now, x.wq, x.wc⟩ : Stx)]).length = (x.m.may ++ [(true, x.m.now)]).length := by rw [← el, List.length_map]
            rw [el, en] at sin
            rw [en] at ks ⊢
            have es : stepM x.m o.stp a.ans = { z.m with may := x.m.may ++ [(true, x.m.now)] } := by
              unfold stepM
              rw [if_pos hre', if_pos (show 12 ≤ o.k ∧ o.k ≤ 14 from ⟨hk12, hk14⟩), hz]
            refine ⟨⟨{ z.m with may := x.m.may ++ [(true, x.m.now)] }, q93, c95, z.wq, z.wc⟩, es.symm, ?_, up ks ⟨sin, dz92.now⟩, kT.trans ks⟩
            unfold dV at ev ⊢
            simp only [Value.agg.injEq, Array.mk.injEq, List.cons.injEq, Value.slice.injEq, Value.bool.injEq, Value.string.injEq, and_true] at ev ⊢
            exact ⟨by simp, ev.2⟩
        · refine bif_eq (fun h1 => ?_) (fun h1 => ⟨rfl, ?_⟩)
          · refine push_st ⟨true, [], none, 0⟩ own61 rfl hlen fun q93 c95 w92 r92 k92 k92' => ?_
            have za9 : (w61.alloc (.cells #[.bool true, .slice none 0 0] 146)).heap.size = w61.heap.size + 1 := alloc_size _ _
            have kT : Kp T W5 w92 := kz.trans ((K61.wide (S := fun i => w28.heap.size ≤ i)).trans k92 |>.narrow (Nat.le_refl _)).wide
            refine ⟨_, _, _, rfl, k92'.keeps fun b hb => ⟨by simp at hb; show b < (w61.alloc (.cells #[.bool true, .slice none 0 0] 146)).heap.size; omega, fun hh => by have hh : w28.heap.size ≤ b := hh; simp at hb; omega⟩, rfl, ?_⟩
            refine (if_pos h1).mpr ?_
            have ks : Kp T w92 (w92.setCell ⟨W4.heap.size, 0, none⟩ (.slice q93 (l ++ [(⟨true, [], none, 0⟩ : Stx)]).length c95)) := setT (Kp.refl T w92) _ T4
            have sin : SIn w92 Q' q93 (l ++ [(⟨true, [], none, 0⟩ : Stx)]).length ((l ++ [(⟨true, [], none, 0⟩ : Stx)]).map Stx.sta) := sin_own r92 (fun i hi => by
              rcases hi with hi | hi
              · exact .inr (by have hi : w28.heap.size ≤ i := hi; omega)
              · exact .inr (by have hi : w61.heap.size ≤ i := hi; omega)) fun y hy => by
              rcases List.mem_append.1 hy with hy | hy
              · exact lfQ k92 (fun i hi => .inl hi) y hy
              · rw [List.mem_singleton] at hy
                subst hy
                exact FIn.nil _ _ _
            have dz92 : DIn w92 Q' z := dz61.kp k92 fun i hl hi => ⟨fun hh => by have hh : w28.heap.size ≤ i := hh; have := hi.2; omega, hi.1⟩
            have el : (l ++ [(⟨true, [], none, 0⟩ : Stx)]).map Stx.sta = x.m.may ++ [(true, [])] := by rw [List.map_append, ml]; rfl
            have en : (l ++ [(⟨true, [], none, 0⟩ : Stx)]).length = (x.m.may ++ [(true, ([] : List Fil))]).length := by rw [← el, List.length_map]
            rw [el, en] at sin
            rw [en] at ks ⊢
            refine ⟨⟨{ z.m with may := x.m.may ++ [(true, [])] }, q93, c95, z.wq, z.wc⟩, by rw [hz], ?_, up ks ⟨sin, dz92.now⟩, kT.trans ks⟩
            unfold dV at ez ⊢
            simp only [Value.agg.injEq, Array.mk.injEq, List.cons.injEq, Value.slice.injEq, Value.bool.injEq, Value.string.injEq, and_true] at ez ⊢
            exact ⟨by simp, ez.2⟩
          · exact (if_neg h1).mpr ⟨rfl, ez⟩
    · have base : ¬ (o.k = 2 ∧ a.e = 7) → z.m = baseM x.m o.stp a.ans := fun hn => by
        rw [hz]
        unfold baseM
        rw [if_neg (show ¬ (o.k = 2 ∧ a.e = 7) from hn)]
      refine bif_eq (fun h2 => bif_eq (fun h7 => ?_) (fun h7 => ⟨rfl, z, base (fun h => h7 h.2), ez, dz, kz⟩)) (fun h2 => ⟨rfl, z, base (fun h => h2 h.1), ez, dz, kz⟩)
      obtain ⟨s1, kp2, kp3⟩ := one_laid (c := 0) kz false (FIn.nil w15 Q' none) hT hQW hQT (b := W4.heap.size) (i := 0) (v := .slice (some ⟨w15.heap.size, 0, none⟩) 1 1) T4
      refine ⟨rfl, ⟨{ z.m with may := [(false, [])] }, some ⟨w15.heap.size, 0, none⟩, 1, z.wq, z.wc⟩, ?_, ?_, ⟨s1, (up kp3 dz).now⟩, kp2⟩
      · rw [hz]
        unfold baseM
        rw [if_pos (show o.k = 2 ∧ a.e = 7 from ⟨h2, h7⟩)]
      · unfold dV at ez ⊢
        simp only [Value.agg.injEq, Array.mk.injEq, List.cons.injEq, Value.slice.injEq, Value.bool.injEq, Value.string.injEq, and_true] at ez ⊢
        exact ⟨by simp, ez.2⟩
  · refine bif_not (fun ht => ?_) (fun ht => ?_)
    · have ks : Kp T w1 (((w1.setCell ⟨W4.heap.size, 1, none⟩ (.bool (openM x.m o.stp a.ans))).setCell ⟨W4.heap.size, 3, none⟩ (.bool false)).setCell ⟨W4.heap.size, 4, none⟩ (.slice none 0 0)) := setT (setT (setT (Kp.refl T w1) _ T4) _ T4) _ T4
      refine ⟨rfl, ⟨{ x.m with poisoned := a.po, opn := openM x.m o.stp a.ans, streaming := false, now := [] }, x.mq, x.mc, none, 0⟩, ?_, rfl, ⟨((up (kp1.trans ks) x5)).may, FIn.nil _ _ _⟩, kp1.trans ks⟩
      rw [if_pos ht, if_pos ht]
    · have ks : Kp T w1 (w1.setCell ⟨W4.heap.size, 1, none⟩ (.bool (openM x.m o.stp a.ans))) := setT (Kp.refl T w1) _ T4
      have hn : ¬ openM x.m o.stp a.ans = false := by rw [ht]; decide
      refine ⟨rfl, ⟨{ x.m with poisoned := a.po, opn := openM x.m o.stp a.ans }, x.mq, x.mc, x.wq, x.wc⟩, ?_, rfl, ⟨((up (kp1.trans ks) x5)).may, ((up (kp1.trans ks) x5)).now⟩, kp1.trans ks⟩
      rw [if_neg hn, if_neg hn]
end Go.Proofs.YtbpknjldphckgaaDoor

namespace Go.Proofs.YtbpknjldphckgaaDoor
open Go Go.SX Go.Proofs
set_option maxRecDepth 100000
set_option linter.unusedVariables false
def VCTryd99 (mq : Option Addr) (mn mc : Nat) (op pz st : Bool) (wq : Option Addr) (wn wc : Nat) (na da : ByteArray) (k : Int) (s : ByteArray) (dq : Option Addr) (dn dc : Nat) (N : Int) (kq : Option Addr) (kn kc : Nat) (nm fi : Int) (e : Int) (aq : Option Addr) (an ac : Nat) (z : Int) (nq : Option Addr) (nn nc : Nat) (lq : Option Addr) (ln lc : Nat) (re po : Bool) (w : World) (W1 : World) (W2 : World) (W3 : World) (KL : List (Nat × List (Nat × Value))) (SL : List Value) (R : Ending → World → Prop) : Prop :=
 Known W3.drew KL →
 Rets Tryd.prog (148 : Nat) #[Value.agg #[Value.slice mq mn mc, Value.bool op, Value.bool pz, Value.bool st, Value.slice wq wn wc, Value.string na, Value.string da], Value.agg #[Value.int IntKind.i64 k, Value.string s, Value.slice dq dn dc, Value.int IntKind.i64 N, Value.slice kq kn kc, Value.int IntKind.i64 nm, Value.int IntKind.u8 fi], Value.agg #[Value.int IntKind.i64 e, Value.slice aq an ac, Value.int IntKind.i64 z, Value.slice nq nn nc, Value.slice lq ln lc, Value.bool re, Value.bool po]] W3.drew fun (v0 : Value) (w1 : World) => ∃ (i2 : Int), ∃ (q3 : Option Addr), ∃ (n4 : Nat), ∃ (n5 : Nat), ∃ (i6 : Int), ∃ (q7 : Option Addr), ∃ (n8 : Nat), ∃ (n9 : Nat), ∃ (q10 : Option Addr), ∃ (n11 : Nat), ∃ (n12 : Nat), ∃ (t13 : Bool), ∃ (t14 : Bool), v0 = Value.agg #[Value.int IntKind.i64 i2, Value.slice q3 n4 n5, Value.int IntKind.i64 i6, Value.slice q7 n8 n9, Value.slice q10 n11 n12, Value.bool t13, Value.bool t14] ∧ Keeps W3.drew w1 [w.heap.size, W1.heap.size, W2.heap.size] ∧ (w1.cell? (({ block := W2.heap.size, off := (0 : Nat) } : Addr).add (0 : Nat)) = some (Value.int IntKind.i64 e) ∧ w1.cell? (({ block := W2.heap.size, off := (0 : Nat) } : Addr).add (1 : Nat)) = some (Value.slice aq an ac) ∧ w1.cell? (({ block := W2.heap.size, off := (0 : Nat) } : Addr).add (2 : Nat)) = some (Value.int IntKind.i64 z) ∧ w1.cell? (({ block := W2.heap.size, off := (0 : Nat) } : Addr).add (3 : Nat)) = some (Value.slice nq nn nc) ∧ w1.cell? (({ block := W2.heap.size, off := (0 : Nat) } : Addr).add (4 : Nat)) = some (Value.slice lq ln lc) ∧ w1.cell? (({ block := W2.heap.size, off := (0 : Nat) } : Addr).add (5 : Nat)) = some (Value.bool re) ∧ w1.cell? (({ block := W2.heap.size, off := (0 : Nat) } : Addr).add (6 : Nat)) = some (Value.bool po) ∧ True) ∧ (Known w1 KL →
 Rets Tryd.prog (147 : Nat) #[Value.agg #[Value.int IntKind.i64 e, Value.slice aq an ac, Value.int IntKind.i64 z, Value.slice nq nn nc, Value.slice lq ln lc, Value.bool re, Value.bool po], Value.agg #[Value.int IntKind.i64 i2, Value.slice q3 n4 n5, Value.int IntKind.i64 i6, Value.slice q7 n8 n9, Value.slice q10 n11 n12, Value.bool t13, Value.bool t14]] w1 fun (v15 : Value) (w16 : World) => ∃ (t17 : Bool), v15 = Value.bool t17 ∧ Keeps w1 w16 [w.heap.size, W1.heap.size, W2.heap.size] ∧ bif !t17 then
 Known w16 KL → R (Ending.returned (Value.bool false)) w16 else
 ∃ (I18 : World → Prop), (∀ (w19 : World), I18 w19 → Known w19 KL → ∃ (I20 : World → Prop), (∀ (w21 : World), I20 w21 → Known w21 KL → Known w21 KL →
 Rets Tryd.prog (151 : Nat) #[Value.agg #[Value.slice mq mn mc, Value.bool op, Value.bool pz, Value.bool st, Value.slice wq wn wc, Value.string na, Value.string da], Value.agg #[Value.int IntKind.i64 k, Value.string s, Value.slice dq dn dc, Value.int IntKind.i64 N, Value.slice kq kn kc, Value.int IntKind.i64 nm, Value.int IntKind.u8 fi], Value.agg #[Value.int IntKind.i64 e, Value.slice aq an ac, Value.int IntKind.i64 z, Value.slice nq nn nc, Value.slice lq ln lc, Value.bool re, Value.bool po]] w21 fun (v22 : Value) (w23 : World) => ∃ (t24 : Bool), v22 = Value.bool t24 ∧ Keeps w21 w23 [w.heap.size, W1.heap.size, W2.heap.size] ∧ bif !t24 then
 Known w23 KL → R (Ending.returned (Value.bool !po)) w23 else
 bif !op then
 Known w23 KL → R (Ending.returned (Value.bool !po)) w23 else
 ∃ (I25 : World → Prop), (∀ (w26 : World), I25 w26 → Known w26 KL → bif re then
 bif k == (13 : Int) then
 Known w26 KL → R (Ending.returned (Value.bool true)) w26 else
 Known w26 KL → R (Ending.returned (Value.bool (po == pz))) w26 else
 Known w26 KL → R (Ending.returned (Value.bool (po == pz))) w26) ∧ bif re then
 bif k == (12 : Int) then
 Known w23 KL → R (Ending.returned (Value.bool po)) w23 else
 SameVals SL SL ∧ I25 w23 else
 SameVals SL SL ∧ I25 w23) ∧ bif !re then
 bif e == (0 : Int) then
 bif k == (2 : Int) then
 Known w19 KL →
 Rets Tryd.prog (102 : Nat) #[Value.agg #[Value.slice mq mn mc, Value.bool op, Value.bool pz, Value.bool st, Value.slice wq wn wc, Value.string na, Value.string da], Value.agg #[Value.bool true, Value.slice lq ln lc]] w19 fun (v27 : Value) (w28 : World) => ∃ (t29 : Bool), v27 = Value.bool t29 ∧ Keeps w19 w28 [w.heap.size, W1.heap.size, W2.heap.size] ∧ bif !t29 then
 Known w28 KL → R (Ending.returned (Value.bool false)) w28 else
 SameVals SL SL ∧ I20 w28 else
 bif k == (15 : Int) then
 Known w19 KL →
 Rets Tryd.prog (102 : Nat) #[Value.agg #[Value.slice mq mn mc, Value.bool op, Value.bool pz, Value.bool st, Value.slice wq wn wc, Value.string na, Value.string da], Value.agg #[Value.bool true, Value.slice lq ln lc]] w19 fun (v30 : Value) (w31 : World) => ∃ (t32 : Bool), v30 = Value.bool t32 ∧ Keeps w19 w31 [w.heap.size, W1.heap.size, W2.heap.size] ∧ bif !t32 then
 Known w31 KL → R (Ending.returned (Value.bool false)) w31 else
 SameVals SL SL ∧ I20 w31 else
 SameVals SL SL ∧ I20 w19 else
 SameVals SL SL ∧ I20 w19 else
 SameVals SL SL ∧ I20 w19) ∧ bif re then
 Known w16 KL →
 Rets Tryd.prog (149 : Nat) #[Value.int IntKind.i64 k] w16 fun (v33 : Value) (w34 : World) => ∃ (t35 : Bool), v33 = Value.bool t35 ∧ Keeps w16 w34 [w.heap.size, W1.heap.size, W2.heap.size] ∧ bif !t35 then
 Known w34 KL → R (Ending.returned (Value.bool false)) w34 else
 Known w34 KL →
 Rets Tryd.prog (150 : Nat) #[Value.agg #[Value.slice mq mn mc, Value.bool op, Value.bool pz, Value.bool st, Value.slice wq wn wc, Value.string na, Value.string da], Value.agg #[Value.int IntKind.i64 k, Value.string s, Value.slice dq dn dc, Value.int IntKind.i64 N, Value.slice kq kn kc, Value.int IntKind.i64 nm, Value.int IntKind.u8 fi], Value.int IntKind.i64 (0 : Int)] w34 fun (v36 : Value) (w37 : World) => ∃ (t38 : Bool), v36 = Value.bool t38 ∧ Keeps w34 w37 [w.heap.size, W1.heap.size, W2.heap.size] ∧ bif !t38 then
 Known w37 KL → R (Ending.returned (Value.bool false)) w37 else
 bif e != (10 : Int) then
 bif e != (9 : Int) then
 Known w37 KL → R (Ending.returned (Value.bool false)) w37 else
 SameVals SL SL ∧ I18 w37 else
 SameVals SL SL ∧ I18 w37 else
 Known w16 KL →
 Rets Tryd.prog (150 : Nat) #[Value.agg #[Value.slice mq mn mc, Value.bool op, Value.bool pz, Value.bool st, Value.slice wq wn wc, Value.string na, Value.string da], Value.agg #[Value.int IntKind.i64 k, Value.string s, Value.slice dq dn dc, Value.int IntKind.i64 N, Value.slice kq kn kc, Value.int IntKind.i64 nm, Value.int IntKind.u8 fi], Value.int IntKind.i64 e] w16 fun (v39 : Value) (w40 : World) => ∃ (t41 : Bool), v39 = Value.bool t41 ∧ Keeps w16 w40 [w.heap.size, W1.heap.size, W2.heap.size] ∧ bif !t41 then
 Known w40 KL → R (Ending.returned (Value.bool false)) w40 else
 SameVals SL SL ∧ I18 w40)
theorem vcTryd99 (mq : Option Addr) (mn mc : Nat) (op pz st : Bool) (wq : Option Addr) (wn wc : Nat) (na da : ByteArray) (k : Int) (s : ByteArray) (dq : Option Addr) (dn dc : Nat) (N : Int) (kq : Option Addr) (kn kc : Nat) (nm fi : Int) (e : Int) (aq : Option Addr) (an ac : Nat) (z : Int) (nq : Option Addr) (nn nc : Nat) (lq : Option Addr) (ln lc : Nat) (re po : Bool) (w : World) (R : Ending → World → Prop) : SX.vcFn Tryd.prog [(1000014, ⟨[], [4, 5, 3, 999999], []⟩), (1000010, ⟨[], [4, 3, 5, 999999], []⟩), (1000008, ⟨[], [5, 3, 4, 999999], []⟩)] Tryd.f99 [.v (.agg #[.slice mq mn mc, .bool op, .bool pz, .bool st, .slice wq wn wc, .string na, .string da]), .v (.agg #[.int .i64 k, .string s, .slice dq dn dc, .int .i64 N, .slice kq kn kc, .int .i64 nm, .int .u8 fi]), .v (.agg #[.int .i64 e, .slice aq an ac, .int .i64 z, .slice nq nn nc, .slice lq ln lc, .bool re, .bool po])] [] w R =
 VCTryd99 mq mn mc op pz st wq wn wc na da k s dq dn dc N kq kn kc nm fi e aq an ac z nq nn nc lq ln lc re po w (w.alloc (Obj.cells #[Value.slice mq mn mc, Value.bool op, Value.bool pz, Value.bool st, Value.slice wq wn wc, Value.string na, Value.string da] (136 : Nat))) ((w.alloc (Obj.cells #[Value.slice mq mn mc, Value.bool op, Value.bool pz, Value.bool st, Value.slice wq wn wc, Value.string na, Value.string da] (136 : Nat))).alloc (Obj.cells #[Value.int IntKind.i64 k, Value.string s, Value.slice dq dn dc, Value.int IntKind.i64 N, Value.slice kq kn kc, Value.int IntKind.i64 nm, Value.int IntKind.u8 fi] (124 : Nat))) (((w.alloc (Obj.cells #[Value.slice mq mn mc, Value.bool op, Value.bool pz, Value.bool st, Value.slice wq wn wc, Value.string na, Value.string da] (136 : Nat))).alloc (Obj.cells #[Value.int IntKind.i64 k, Value.string s, Value.slice dq dn dc, Value.int IntKind.i64 N, Value.slice kq kn kc, Value.int IntKind.i64 nm, Value.int IntKind.u8 fi] (124 : Nat))).alloc (Obj.cells #[Value.int IntKind.i64 e, Value.slice aq an ac, Value.int IntKind.i64 z, Value.slice nq nn nc, Value.slice lq ln lc, Value.bool re, Value.bool po] (138 : Nat))) [(w.heap.size, [((0 : Nat), Value.slice mq mn mc), ((1 : Nat), Value.bool op), ((2 : Nat), Value.bool pz), ((3 : Nat), Value.bool st), ((4 : Nat), Value.slice wq wn wc), ((5 : Nat), Value.string na), ((6 : Nat), Value.string da)]), ((w.alloc (Obj.cells #[Value.slice mq mn mc, Value.bool op, Value.bool pz, Value.bool st, Value.slice wq wn wc, Value.string na, Value.string da] (136 : Nat))).heap.size, [((0 : Nat), Value.int IntKind.i64 k), ((1 : Nat), Value.string s), ((2 : Nat), Value.slice dq dn dc), ((3 : Nat), Value.int IntKind.i64 N), ((4 : Nat), Value.slice kq kn kc), ((5 : Nat), Value.int IntKind.i64 nm), ((6 : Nat), Value.int IntKind.u8 fi)]), (((w.alloc (Obj.cells #[Value.slice mq mn mc, Value.bool op, Value.bool pz, Value.bool st, Value.slice wq wn wc, Value.string na, Value.string da] (136 : Nat))).alloc (Obj.cells #[Value.int IntKind.i64 k, Value.string s, Value.slice dq dn dc, Value.int IntKind.i64 N, Value.slice kq kn kc, Value.int IntKind.i64 nm, Value.int IntKind.u8 fi] (124 : Nat))).heap.size, [((0 : Nat), Value.int IntKind.i64 e), ((1 : Nat), Value.slice aq an ac), ((2 : Nat), Value.int IntKind.i64 z), ((3 : Nat), Value.slice nq nn nc), ((4 : Nat), Value.slice lq ln lc), ((5 : Nat), Value.bool re), ((6 : Nat), Value.bool po)])] [Value.slice mq mn mc, Value.bool op, Value.bool pz, Value.bool st, Value.slice wq wn wc, Value.string na, Value.string da, Value.int IntKind.i64 k, Value.string s, Value.slice dq dn dc, Value.int IntKind.i64 N, Value.slice kq kn kc, Value.int IntKind.i64 nm, Value.int IntKind.u8 fi, Value.int IntKind.i64 e, Value.slice aq an ac, Value.int IntKind.i64 z, Value.slice nq nn nc, Value.slice lq ln lc, Value.bool re, Value.bool po] R := by kernel_rfl
end Go.Proofs.YtbpknjldphckgaaDoor

namespace Go.Proofs.YtbpknjldphckgaaDoor
open Go Go.SX Go.Proofs Go.Lib
set_option maxRecDepth 100000
set_option linter.unusedVariables false
set_option linter.unusedSimpArgs false
theorem laidB (w : World) (cs : Array Value) (e : TypeId) : Kp none_ w (w.alloc (.cells cs e)) ∧ (w.alloc (.cells cs e)).heap.size = w.heap.size + 1 ∧ Big (w.alloc (.cells cs e)) w.heap.size e cs.toList := ⟨(Kp.refl none_ w).alloc1 _, alloc_size _ _, Big.new _ _ _⟩
theorem c102 {w : World} (x : Dx) (h : DRd w x) (S : Stx) (hS : FRd w S.q S.L.length S.L) : Rets Tryd.prog 102 #[dV x, stV S] w fun v w' => v = .bool (canM x.m S.sta) ∧ Kp none_ w w' := by
  refine ent [_, _] Tryd.func102 ((vcTryd102 x.mq x.m.may.length x.mc x.m.opn x.m.poisoned x.m.streaming x.wq x.m.now.length x.wc (ba x.m.name) (ba x.m.data) S.t S.q S.L.length S.c w _).mpr ?_)
  obtain ⟨ka, za⟩ := laidK w (dC x) 136
  unfold dC at ka za
  generalize w.alloc _ = W1 at *
  obtain ⟨kb, zb⟩ := laidK W1 #[.bool S.t, .slice S.q S.L.length S.c] 146
  generalize W1.alloc _ = W2 at *
  have kk := ka.trans kb
  unfold VCTryd102
  obtain ⟨l, hm, hn, r⟩ := h.may
  have hl := h.len.1
  have hall := h.len.2.2.1
  have hlen : ∀ i (hi : i < l.length), (l[i]).L.length ≤ 1000000 := fun i hi => hall ((l[i]).sta) (by rw [← hm]; exact List.mem_map_of_mem (List.getElem_mem hi))
  rw [hn] at hl ⊢
  let t : Stx → Bool := fun y => y.t == S.t && (!S.t || decide (y.L = S.L))
  have hcan : canM x.m S.sta = l.any t := by
    unfold canM
    rw [← hm, List.any_map]
    rfl
  refine ⟨fun i w' => ∃ j : Nat, i = j ∧ j ≤ l.length ∧ Kp none_ W2 w' ∧ ∀ y (hk : y < l.length), y < j → t l[y] = false, fun i _ => (l.length - i).toNat, ⟨0, rfl, by omega, Kp.refl _ _, fun y hk h => by omega⟩, ?_⟩
  rintro i w3 ⟨j, rfl, hj, k3, hnn⟩ _
  have k3d : Kp none_ W2 w3.drew := k3.drew
  have kp2 : ∀ {w' : World}, Kp none_ w3.drew w' → Keeps w3.drew w' [w.heap.size, W1.heap.size] := fun k => k.keeps fun b hb => ⟨by have := k3.size; simp at hb; show b < w3.heap.size; omega, id⟩
  refine bif_dec (fun hi => ?_) (fun hi _ => ⟨_, rfl, ?_, kk.trans k3⟩)
  · have hjl : j < l.length := by omega
    have yes : t l[j] = true → canM x.m S.sta = true := fun e => by
      rw [hcan, List.any_eq_true]
      exact ⟨_, List.getElem_mem hjl, e⟩
    have next : ∀ {w' : World}, t l[j] = false → Kp none_ W2 w' → ∃ j' : Nat, ((j : Int) + 1) = j' ∧ j' ≤ l.length ∧ Kp none_ W2 w' ∧ ∀ y (hk : y < l.length), y < j' → t l[y] = false := fun e k => ⟨j + 1, by omega, by omega, k, fun y hk hyj => by
      by_cases ee : y = j
      · subst ee; exact e
      · exact hnn y hk (by omega)⟩
    refine ⟨⟨by omega, hi⟩, st_at (r.kp0 (kk.trans k3d)) hjl fun a _ mx => ⟨_, mx.c0, bif_b (fun hh => bif_not (fun ht _ => ⟨_, rfl, ?_, kk.trans k3d⟩) (fun ht => ⟨⟨by omega, hi⟩, st_at (r.kp0 (kk.trans k3d)) hjl fun a _ mx => ⟨_, _, _, mx.c1, fun _ => ?_⟩⟩)) (fun hh => wr64 (by omega) ⟨rfl, next ?_ k3d, by first | omega | (dsimp only; omega)⟩)⟩⟩
    · rw [yes]
      show (l[j].t == S.t && (!S.t || decide (l[j].L = S.L))) = true
      rw [hh, ht]
      rfl
    · refine (c85 mx.fi (hS.kp0 (kk.trans k3d)) (hlen j hjl)).mono ?_
      rintro v w4 ⟨rfl, k4⟩
      have te : t l[j] = decide (l[j].L = S.L) := by
        show (l[j].t == S.t && (!S.t || decide (l[j].L = S.L))) = _
        rw [hh, ht]
        rfl
      refine ⟨_, rfl, kp2 k4, bif_dec (fun h5 _ => ⟨_, rfl, ?_, kk.trans (k3d.trans k4)⟩) (fun h5 => wr64 (by omega) ⟨rfl, next ?_ (k3d.trans k4), by first | omega | (dsimp only; omega)⟩)⟩
      · rw [yes (by rw [te]; exact decide_eq_true h5)]
      · rw [te]
        exact decide_eq_false h5
    · show (l[j].t == S.t && (!S.t || decide (l[j].L = S.L))) = false
      rw [hh]
      rfl
  · rw [hcan]
    congr 1
    symm
    rw [List.any_eq_false]
    intro y hy
    obtain ⟨k, hk, e⟩ := List.getElem_of_mem hy
    rw [← e, hnn k hk (by omega)]
    decide
theorem c180 {w : World} {q : Option Addr} {c n : Nat} {L : List Fil} (h : FRd w q n L) (hL : L.length ≤ 1000000) (f : ByteArray) : Rets Tryd.prog 180 #[.slice q n c, .string f] w fun v w' =>
    ∃ q' c', v = .slice q' (underF L (bytesL f)).length c' ∧ OwnRow w' (fun i => w.heap.size ≤ i) 9 1 (.slice q' (underF L (bytesL f)).length c') (underF L (bytesL f)).length (strsC (underF L (bytesL f))) ∧ Kp none_ w w' := by
  obtain ⟨l, rfl, rfl, hx, hdx⟩ := h
  have hl : l.length ≤ 1000000 := by simpa using hL
  refine ent [_, _] Tryd.func180 ((vcTryd180 _ _ _ _ w _).mpr ?_)
  unfold VCTryd180
  have stp : ∀ j (hj : j < l.length), underF ((l.take (j + 1)).map Fx.fil) (bytesL f) = if inF (bytesL f) l[j].s = true then underF ((l.take j).map Fx.fil) (bytesL f) ++ [l[j].s] else underF ((l.take j).map Fx.fil) (bytesL f) := fun j hj => by
    rw [List.take_succ_eq_append_getElem hj, List.map_append]
    unfold underF
    rw [List.filter_append, List.map_append]
    split <;> rename_i hh <;> simp [hh]
  refine ⟨fun i q n c w' => ∃ j : Nat, i = j ∧ j ≤ l.length ∧ n = (underF ((l.take j).map Fx.fil) (bytesL f)).length ∧ n ≤ j ∧ OwnRow w' (fun i => w.heap.size ≤ i) 9 1 (.slice q n c) n (strsC (underF ((l.take j).map Fx.fil) (bytesL f))) ∧ Kp (fun i => w.heap.size ≤ i) w w', fun i _ _ _ _ => (l.length - i).toNat, ⟨0, rfl, by omega, by simp [underF], by omega, by simpa [underF, strsC] using OwnRow.nil _ _ _ _, Kp.refl _ _⟩, ?_⟩
  rintro i q3 n4 c5 w6 ⟨j, rfl, hj, rfl, hnj, r6, k6⟩
  refine bif_dec (fun h1 => ?_) (fun h1 => ⟨_, rfl, q3, c5, ?_, ?_, k6.narrow (Nat.le_refl _)⟩)
  · have hjl : j < l.length := by omega
    refine ⟨⟨by omega, by omega⟩, fx_at (hx.far k6 (Nat.le_refl _)) hjl fun x _ mx => ⟨_, mx.c0, (c132 f (ba l[j].s) w6).mono ?_⟩⟩
    rw [bytesL_ba]
    rintro v w8 ⟨rfl, k8⟩
    have hs := stp j hjl
    have r8 := (r6.mono (own' := fun i => w.heap.size ≤ i ∧ i < w6.heap.size) fun i hi hl => ⟨hi, hl⟩).kp k8 fun _ _ _ _ _ => id
    have K8 := k6.trans (k8.wide)
    refine ⟨_, rfl, k8.keeps0, bif_b (fun hh => ⟨⟨by omega, by omega⟩, fx_at (hx.far K8 (Nat.le_refl _)) hjl fun x _ mx => ⟨_, mx.c0, ?_⟩⟩) (fun hh => wr64 (by omega) ⟨⟨j + 1, by omega, by omega, ?_, by omega, ?_, K8⟩, by first | omega | (dsimp only; omega)⟩)⟩
    · rw [if_pos hh] at hs
      refine append_new (own := fun i => w.heap.size ≤ i ∧ i < w6.heap.size) (xs := strsC (underF ((l.take j).map Fx.fil) (bytesL f))) #[.string (ba l[j].s)] und46 elem9 (by omega) r8 rfl (fun u hu => by simp at hu; subst hu; simp [Value.oneCell']) (by omega) fun q' c' w9 r9 k9 k9' => ⟨_, _, _, rfl, k9'.keeps0, wr64 (by omega) ⟨⟨j + 1, by omega, by omega, by rw [hs]; simp, by omega, ?_, K8.trans (k9.mono fun i _ hi => hi.1)⟩, by first | omega | (dsimp only; omega)⟩⟩
      rw [hs]
      have := K8.size
      have r9 := r9.mono (own' := fun i => w.heap.size ≤ i) fun i hi _ => hi.elim (fun h => h.1) fun hf => Nat.le_trans this hf
      simpa [strsC] using r9
    · rw [hs, if_neg (by rw [hh]; decide)]
    · rw [hs, if_neg (by rw [hh]; decide)]
      exact r8.mono fun i hi _ => hi.1
  · rw [List.take_of_length_le (by omega)]
  · rw [List.take_of_length_le (by omega)] at r6
    exact r6
theorem findD_at : ∀ {L : List Fil} {s : List UInt8} {j : Nat}, findK Prod.fst L s = some j → ∃ hj : j < L.length, findD L s = (L[j]).2
  | [], s, j, h => by cases h
  | b :: r, s, j, h => by
    unfold findK at h
    by_cases e : b.1 = s
    · rw [if_pos e] at h
      cases h
      refine ⟨by simp, ?_⟩
      unfold findD
      rw [List.find?_cons_of_pos (by simpa using e)]
      rfl
    · rw [if_neg e] at h
      cases h2 : findK Prod.fst r s with
      | none => rw [h2] at h; cases h
      | some k =>
        rw [h2] at h
        cases h
        obtain ⟨hk, e2⟩ := findD_at h2
        refine ⟨by simp; omega, ?_⟩
        unfold findD at e2 ⊢
        rw [List.find?_cons_of_neg (by simpa using e), e2]
        rfl
theorem findD_none {L : List Fil} {s : List UInt8} (h : findK Prod.fst L s = none) : findD L s = [] := by
  unfold findD
  have : L.find? (fun x => x.1 == s) = none := by
    rw [List.find?_eq_none]
    intro y hy hh
    have := findK_has (k := Prod.fst) L s
    rw [h] at this
    have h2 : has Prod.fst L s = true := has_iff.2 ⟨y, hy, by simpa using hh⟩
    rw [h2] at this
    cases this
  rw [this]
/-- An answer that is read, in the blocks of Q. -/
structure AnIn (w : World) (Q : Nat → Prop) (p : Ax) : Prop where
  dat : BytesAt w p.aq (ba p.d)
  di : 0 < p.d.length → ∀ a, p.aq = some a → Q a.block
  le : p.d.length ≤ p.ac ∧ p.ac ≤ maxLen
  nam : StrsAt w p.nq p.n
  ni : 0 < p.n.length → ∀ a, p.nq = some a → Q a.block
  fil : FIn w Q p.lq p.L.length p.L
theorem AnIn.at {w : World} {Q : Nat → Prop} {p : Ax} (h : AnIn w Q p) : AnAt w p := ⟨h.dat, h.le, h.nam, h.fil.rd⟩
theorem AnIn.kp {S Q Q' : Nat → Prop} {w w' : World} {p : Ax} (h : AnIn w Q p) (k : Kp S w w') (hs : ∀ i, i < w.heap.size → Q i → ¬ S i ∧ Q' i) : AnIn w' Q' p :=
  ⟨h.dat.kp k fun h0 a e => (hs _ (h.dat.lt h0 a e) (h.di (by simpa [ba_size] using h0) a e)).1, fun h0 a e => (hs _ (h.dat.lt (by rw [ba_size]; exact h0) a e) (h.di h0 a e)).2, h.le, h.nam.kp k fun a e hl h0 => (hs _ hl (h.ni h0 a e)).1, fun h0 a e => by
    obtain ⟨a', e', hc⟩ := h.nam 0 h0
    rw [e] at e'
    cases e'
    have := cell_lt hc
    rw [add_block] at this
    exact (hs _ this (h.ni h0 a e)).2, h.fil.kp k hs⟩
theorem c148 {w : World} {Q : Nat → Prop} (x : Dx) (hx : DIn w Q x) (ok : DOk x.m) (hQ : ∀ i, Q i → i < w.heap.size) (o : Ox) (a : Ax) (ha : FIn w Q a.lq a.L.length a.L) (hlc : a.L.length ≤ a.lc) : Rets Tryd.prog 148 #[dV x, opV o, anV a] w fun v w' =>
    ∃ p : Ax, v = anV p ∧ p.ans = plainM x.m o.stp a.ans ∧ AnAt w' p ∧ Kp none_ w w' := by
  refine ent [_, _, _] Tryd.func148 ((vcTryd148 x.mq x.m.may.length x.mc x.m.opn x.m.poisoned x.m.streaming x.wq x.m.now.length x.wc (ba x.m.name) (ba x.m.data) o.k (ba o.s) o.dq o.d.length o.dc o.N o.kq o.kn o.kc o.nm o.fi a.e a.aq a.d.length a.ac a.z a.nq a.n.length a.nc a.lq a.L.length a.lc a.re a.po w _).mpr ?_)
  obtain ⟨ka, za⟩ := laidK w (dC x) 136
  unfold dC at ka za
  generalize w.alloc _ = W1 at *
  obtain ⟨kb, zb⟩ := laidK W1 (opC o) 124
  unfold opC at kb zb
  generalize W1.alloc _ = W2 at *
  obtain ⟨kc, zc⟩ := laidK W2 (anC a) 138
  unfold anC at kc zc
  generalize W2.alloc _ = W3 at *
  obtain ⟨kd, zd⟩ := laidK W3 #[.int .i64 0, .slice none 0 0, .int .i64 0, .slice none 0 0, .slice none 0 0, .bool false, .bool false] 138
  generalize W3.alloc _ = W4 at *
  obtain ⟨ke, ze⟩ := laidK W4 #[.int .i64 0, .slice none 0 0, .int .i64 0, .slice none 0 0, .slice none 0 0, .bool false, .bool false] 138
  generalize W4.alloc _ = W5 at *
  have kk := (((ka.trans kb).trans kc).trans kd).trans ke
  unfold VCTryd148
  let T : Nat → Prop := fun i => w.heap.size ≤ i ∧ i < W5.heap.size
  let Q' : Nat → Prop := fun i => Q i ∨ W5.heap.size ≤ i
  have hQT : ∀ i, Q' i → ¬ T i := fun i h ht => by
    rcases h with h | h
    · have := hQ i h; have := ht.1; omega
    · have := ht.2; omega
  have T3 : T W3.heap.size := ⟨by omega, by omega⟩
  have T4 : T W4.heap.size := ⟨by omega, by omega⟩
  have upA : ∀ {W w' : World} {p : Ax}, Kp T W w' → AnIn W Q' p → AnIn w' Q' p := fun k h => h.kp k fun i _ hi => ⟨hQT i hi, hi⟩
  have k5 : Kp T W5 W5 := Kp.refl _ _
  have x5 : DIn W5 Q' x := hx.kp kk fun i _ hi => ⟨id, .inl hi⟩
  have a5 : FIn W5 Q' a.lq a.L.length a.L := ha.kp kk fun i _ hi => ⟨id, .inl hi⟩
  have keepB : ∀ {W w' : World}, W5.heap.size ≤ W.heap.size → Kp none_ W w' → Keeps W w' [w.heap.size, W1.heap.size, W2.heap.size, W3.heap.size, W4.heap.size] := fun z k => k.keeps fun b hb => ⟨by simp at hb; omega, id⟩
  have ends : ∀ {w' : World}, Kp T W5 w' → Kp none_ w w' := fun k => (kk.wide.trans (k.mono fun i _ hi => hi.1)).narrow (Nat.le_refl _)
  let P : Ans → Int → Option Addr → Nat → Nat → Int → Option Addr → Nat → Nat → Option Addr → Nat → Nat → Bool → Bool → World → Prop := fun D i1 q2 n3 n4 i5 q6 n7 n8 q9 n10 n11 t12 t13 w14 => ∃ p : Ax, p.ans = D ∧ (.agg #[.int .i64 i1, .slice q2 n3 n4, .int .i64 i5, .slice q6 n7 n8, .slice q9 n10 n11, .bool t12, .bool t13] : Value) = anV p ∧ AnIn w14 Q' p ∧ Kp T W5 w14
  have zero : ∀ {w' : World}, AnIn w' Q' ⟨a.e, [], none, 0, 0, [], none, 0, [], none, 0, a.re, a.po⟩ := ⟨fun i hi => absurd hi (by rw [ba_size]; simp), fun h => absurd h (by simp), ⟨Nat.le_refl _, Nat.zero_le _⟩, fun i hi => absurd hi (by simp), fun h => absurd h (by simp), FIn.nil _ _ _⟩
  have pl : ¬ (a.e = 0 ∧ a.re = false) → plainM x.m o.stp a.ans = ⟨a.e, [], 0, [], [], a.re, a.po⟩ := fun hn => by
    unfold plainM
    have hn : ¬ (a.ans.e = 0 ∧ a.ans.refused = false) := hn
    rw [if_neg (fun h => hn h.1), if_neg (fun h => hn h.1), if_neg (fun h => hn h.1), if_neg (fun h => hn h.1)]
  let D1 : Ans := ⟨a.e, if o.k = 8 then findD x.m.now o.s else [], if o.k = 9 then (findD x.m.now o.s).length else 0, [], [], a.re, a.po⟩
  refine ⟨fun i1 q2 n3 n4 i5 q6 n7 n8 q9 n10 n11 t12 t13 w14 => P ⟨a.e, [], 0, [], [], a.re, a.po⟩ i1 q2 n3 n4 i5 q6 n7 n8 q9 n10 n11 t12 t13 w14 ∧ a.e = 0 ∧ a.re = false, ?_, ?_⟩
  · rintro i1 q2 n3 n4 i5 q6 n7 n8 q9 n10 n11 t12 t13 w14 ⟨⟨p, hp, ep, dp, kp⟩, he, hre⟩ _
    have pf : plainM x.m o.stp a.ans = { D1 with names := if o.k = 10 then underF x.m.now o.s else [], files := if o.k = 2 ∨ o.k = 15 then a.L else [] } := by
      unfold plainM
      simp [he, hre, D1]
    refine ⟨P D1, ?_, ?_⟩
    · rintro i16 q17 n18 n19 i20 q21 n22 n23 q24 n25 n26 t27 t28 w29 ⟨p, hp, ep, dp, kp⟩ _
      refine ⟨P { D1 with names := if o.k = 10 then underF x.m.now o.s else [] }, ?_, ?_⟩
      · rintro i31 q32 n33 n34 i35 q36 n37 n38 q39 n40 n41 t42 t43 w44 ⟨p, hp, ep, dp, kp⟩ _
        refine ⟨P (plainM x.m o.stp a.ans), ?_, ?_⟩
        · rintro i46 q47 n48 n49 i50 q51 n52 n53 q54 n55 n56 t57 t58 w59 ⟨p, hp, ep, dp, kp⟩ _ _
          exact ⟨_, rfl, p, ep, hp, (upA (seven (Kp.refl T w59) T3 _ _ _ _ _ _ _) dp).at, ends (seven kp T3 _ _ _ _ _ _ _)⟩
        · have set4 : (o.k = 2 ∨ o.k = 15) → P (plainM x.m o.stp a.ans) i31 q32 n33 n34 i35 q36 n37 n38 a.lq a.L.length a.lc t42 t43 (w44.setCell ⟨W4.heap.size, 4, none⟩ (.slice a.lq a.L.length a.lc)) := fun hk => by
            have ks : Kp T w44 (w44.setCell ⟨W4.heap.size, 4, none⟩ (.slice a.lq a.L.length a.lc)) := setT (Kp.refl T w44) _ T4
            have dq := upA ks dp
            refine ⟨{ p with L := a.L, lq := a.lq, lc := a.lc }, ?_, ?_, ⟨dq.dat, dq.di, dq.le, dq.nam, dq.ni, a5.kp (kp.trans ks) fun i _ hi => ⟨hQT i hi, hi⟩⟩, kp.trans ks⟩
            · rw [pf, if_pos hk]
              have := congrArg (fun z : Ans => ({ z with files := a.L } : Ans)) hp
              exact this
            · unfold anV at ep ⊢
              simp only [Value.agg.injEq, Array.mk.injEq, List.cons.injEq, Value.slice.injEq, Value.bool.injEq, Value.int.injEq, true_and, and_true] at ep ⊢
              exact ⟨ep.1, ep.2.1, ep.2.2.1, ep.2.2.2.1, ep.2.2.2.2.2⟩
          refine bif_eq (fun h2 => ⟨rfl, set4 (.inl h2)⟩) (fun h2 => bif_eq (fun h15 => ⟨rfl, set4 (.inr h15)⟩) (fun h15 => ⟨rfl, p, ?_, ep, dp, kp⟩))
          rw [hp, pf, if_neg (show ¬ (o.k = 2 ∨ o.k = 15) from fun h => h.elim h2 h15)]
      · refine bif_eq (fun h10 _ => ?_) (fun h10 => ⟨rfl, p, by rw [hp, if_neg h10], ep, dp, kp⟩)
        have sz := kp.size
        refine (c180 ((x5.kp kp fun i _ hi => ⟨hQT i hi, hi⟩).now.rd) ok.now (ba o.s)).mono ?_
        rw [bytesL_ba]
        rintro v w61 ⟨q', c', rfl, r61, k61⟩
        have ks : Kp T w61 (w61.setCell ⟨W4.heap.size, 3, none⟩ (.slice q' (underF x.m.now o.s).length c')) := setT (Kp.refl T w61) _ T4
        have K := (k61.wide (S := T)).trans ks
        have dq := upA K dp
        have rs : OwnRow (w61.setCell ⟨W4.heap.size, 3, none⟩ (.slice q' (underF x.m.now o.s).length c')) (fun i => w29.heap.size ≤ i) 9 1 (.slice q' (underF x.m.now o.s).length c') (underF x.m.now o.s).length (strsC (underF x.m.now o.s)) := r61.kp ks fun g n cap _ hg hT => by have := hT.2; omega
        refine ⟨_, _, _, rfl, keepB sz k61, rfl, { p with n := underF x.m.now o.s, nq := q', nc := c' }, ?_, ?_, ⟨dq.dat, dq.di, dq.le, strs_of rs, fun h0 b e => ?_, dq.fil⟩, kp.trans K⟩
        · rw [if_pos h10]
          have := congrArg (fun z : Ans => ({ z with names := underF x.m.now o.s } : Ans)) hp
          exact this
        · unfold anV at ep ⊢
          simp only [Value.agg.injEq, Array.mk.injEq, List.cons.injEq, Value.slice.injEq, Value.bool.injEq, Value.int.injEq, true_and, and_true] at ep ⊢
          exact ⟨ep.1, ep.2.1, ep.2.2.1, ep.2.2.2.2⟩
        · have e : q' = some b := e
          obtain ⟨g, _, e', _, hg, _⟩ := rs.parts h0
          rw [e] at e'
          cases e'
          exact .inr (Nat.le_trans sz hg)
    · have nof : ∀ {w' : World}, Kp T W5 w' → FIn w' Q' x.wq x.m.now.length x.m.now := fun k => (x5.kp k fun i _ hi => ⟨hQT i hi, hi⟩).now
      have sz := kp.size
      refine bif_eq (fun h8 _ => ?_) (fun h8 => bif_eq (fun h9 _ => ?_) (fun h9 => ⟨rfl, p, ?_, ep, dp, kp⟩))
      · refine (c87 (nof kp).rd ok.now (ba o.s)).mono ?_
        rw [bytesL_ba]
        rintro v w66 ⟨rfl, e66⟩
        obtain rfl := e66.symm
        refine ⟨_, rfl, keepB sz (Kp.refl _ _), P D1, ?_, ?_⟩
        · intro i69 q70 n71 n72 i73 q74 n75 n76 q77 n78 n79 t80 t81 w82 h68 _
          exact bif_dec (fun _ => bif_eq (fun h9 => by exfalso; omega) (fun _ => ⟨rfl, h68⟩)) (fun _ => ⟨rfl, h68⟩)
        · have d1 : D1 = { (⟨a.e, [], 0, [], [], a.re, a.po⟩ : Ans) with data := findD x.m.now o.s } := by
            show (⟨a.e, if o.k = 8 then findD x.m.now o.s else [], if o.k = 9 then (findD x.m.now o.s).length else 0, [], [], a.re, a.po⟩ : Ans) = _
            rw [if_pos h8, if_neg (by omega : ¬ o.k = 9)]
          cases hf : findK Prod.fst x.m.now o.s with
          | none =>
            have hd := findD_none hf
            refine bif_dec (fun hh => by exfalso; have hh : (-1 : Int) ≥ 0 := hh; omega) (fun _ => ⟨rfl, p, ?_, ep, dp, kp⟩)
            rw [hp, d1, hd]
          | some j =>
            obtain ⟨hj, hd⟩ := findD_at hf
            obtain ⟨l, lm, ln, lx, lq, ld⟩ := nof kp
            have hjl : j < l.length := by omega
            have el : (l[j]).d = findD x.m.now o.s := by
              rw [hd]
              have := congrArg (fun z : List Fil => z[j]?) lm
              simp only [List.getElem?_map, List.getElem?_eq_getElem hjl, List.getElem?_eq_getElem hj, Option.map_some, Option.some.injEq] at this
              rw [← this]
            refine bif_dec (fun _ => bif_eq (fun _ => ⟨⟨by show (0 : Int) ≤ (j : Int); omega, by show (j : Int) < _; omega⟩, fx_at lx hjl fun b eb mx => ⟨_, _, _, mx.c1, rfl, ?_⟩⟩) (fun hh => absurd h8 hh)) (fun hh => absurd (show (j : Int) ≥ 0 by omega) hh)
            have ks : Kp T w14 (w14.setCell ⟨W4.heap.size, 1, none⟩ (.slice l[j].q l[j].d.length l[j].c)) := setT (Kp.refl T w14) _ T4
            have dq := upA ks dp
            obtain ⟨dj, dji⟩ := ld _ (List.getElem_mem hjl)
            refine ⟨{ p with d := l[j].d, aq := l[j].q, ac := l[j].c }, ?_, ?_, ⟨(dj.kp dji ks fun i _ hi => hQT i hi).by_, dji, dj.le, dq.nam, dq.ni, dq.fil⟩, kp.trans ks⟩
            · rw [d1, ← el]
              have := congrArg (fun z : Ans => ({ z with data := l[j].d } : Ans)) hp
              exact this
            · unfold anV at ep ⊢
              simp only [Value.agg.injEq, Array.mk.injEq, List.cons.injEq, Value.slice.injEq, Value.bool.injEq, Value.int.injEq, true_and, and_true] at ep ⊢
              exact ⟨ep.1, ep.2.2⟩
      · refine (c87 (nof kp).rd ok.now (ba o.s)).mono ?_
        rw [bytesL_ba]
        rintro v w92 ⟨rfl, e92⟩
        obtain rfl := e92.symm
        have d1 : D1 = { (⟨a.e, [], 0, [], [], a.re, a.po⟩ : Ans) with size := (findD x.m.now o.s).length } := by
          show (⟨a.e, if o.k = 8 then findD x.m.now o.s else [], if o.k = 9 then (findD x.m.now o.s).length else 0, [], [], a.re, a.po⟩ : Ans) = _
          rw [if_neg h8, if_pos h9]
        refine ⟨_, rfl, keepB sz (Kp.refl _ _), P ⟨a.e, [], 0, [], [], a.re, a.po⟩, ?_, ?_⟩
        · rintro i95 q96 n97 n98 i99 q100 n101 n102 q103 n104 n105 t106 t107 w108 ⟨p, hp, ep, dp, kp⟩ _
          cases hf : findK Prod.fst x.m.now o.s with
          | none =>
            have hd := findD_none hf
            refine bif_dec (fun hh => by exfalso; have hh : (-1 : Int) ≥ 0 := hh; omega) (fun _ => ⟨rfl, p, ?_, ep, dp, kp⟩)
            rw [hp, d1, hd]
            rfl
          | some j =>
            obtain ⟨hj, hd⟩ := findD_at hf
            obtain ⟨l, lm, ln, lx, lq, ld⟩ := nof kp
            have hjl : j < l.length := by omega
            have el : (l[j]).d = findD x.m.now o.s := by
              rw [hd]
              have := congrArg (fun z : List Fil => z[j]?) lm
              simp only [List.getElem?_map, List.getElem?_eq_getElem hjl, List.getElem?_eq_getElem hj, Option.map_some, Option.some.injEq] at this
              rw [← this]
            refine bif_dec (fun _ => bif_eq (fun _ => ⟨⟨by show (0 : Int) ≤ (j : Int); omega, by show (j : Int) < _; omega⟩, fx_at lx hjl fun b eb mx => ⟨_, _, _, mx.c1, rfl, ?_⟩⟩) (fun hh => absurd h9 hh)) (fun hh => absurd (show (j : Int) ≥ 0 by omega) hh)
            have ks : Kp T w108 (w108.setCell ⟨W4.heap.size, 2, none⟩ (.int .i64 (l[j].d.length : Nat))) := setT (Kp.refl T w108) _ T4
            have dq := upA ks dp
            refine ⟨{ p with z := (l[j].d.length : Nat) }, ?_, ?_, ⟨dq.dat, dq.di, dq.le, dq.nam, dq.ni, dq.fil⟩, kp.trans ks⟩
            · rw [d1, ← el]
              have := congrArg (fun z : Ans => ({ z with size := (l[j].d.length : Nat) } : Ans)) hp
              exact this
            · unfold anV at ep ⊢
              simp only [Value.agg.injEq, Array.mk.injEq, List.cons.injEq, Value.slice.injEq, Value.bool.injEq, Value.int.injEq, true_and, and_true] at ep ⊢
              exact ⟨ep.1, ep.2.1, ep.2.2.2⟩
        · exact bif_dec (fun _ => bif_eq (fun hh => absurd hh h8) (fun _ => ⟨rfl, p, hp, ep, dp, kp⟩)) (fun _ => ⟨rfl, p, hp, ep, dp, kp⟩)
      · rw [hp]
        show _ = (⟨a.e, if o.k = 8 then findD x.m.now o.s else [], if o.k = 9 then (findD x.m.now o.s).length else 0, [], [], a.re, a.po⟩ : Ans)
        rw [if_neg h8, if_neg h9]
  · have fin : ¬ (a.e = 0 ∧ a.re = false) → ∀ {w' : World}, Kp T W5 w' → ∃ v, Ending.returned (.agg #[.int .i64 a.e, .slice none 0 0, .int .i64 0, .slice none 0 0, .slice none 0 0, .bool a.re, .bool a.po]) = Ending.returned v ∧ ∃ p : Ax, v = anV p ∧ p.ans = plainM x.m o.stp a.ans ∧ AnAt w' p ∧ Kp none_ w w' := fun hn {w'} k => ⟨_, rfl, ⟨a.e, [], none, 0, 0, [], none, 0, [], none, 0, a.re, a.po⟩, rfl, (pl hn).symm, (zero (w' := w')).at, ends k⟩
    refine bif_ne (fun he _ => fin (fun h => he h.1) ?_) (fun he => bif_b (fun hr _ => fin (fun h => by rw [hr] at h; cases h.2) ?_) (fun hr => ⟨rfl, ⟨⟨a.e, [], none, 0, 0, [], none, 0, [], none, 0, a.re, a.po⟩, rfl, rfl, zero, seven k5 T4 _ _ _ _ _ _ _⟩, he, hr⟩))
    all_goals exact seven (seven k5 T4 _ _ _ _ _ _ _) T3 _ _ _ _ _ _ _
end Go.Proofs.YtbpknjldphckgaaDoor

namespace Go.Proofs.YtbpknjldphckgaaDoor
open Go Go.SX Go.Proofs Go.Lib
set_option maxRecDepth 100000
set_option linter.unusedVariables false
set_option linter.unusedSimpArgs false
theorem c99 {w : World} {Q : Nat → Prop} (x : Dx) (hx : DIn w Q x) (ok : DOk x.m) (hQ : ∀ i, Q i → i < w.heap.size) (o : Ox) (a : Ax) (han : AnAt w a) (ha : FIn w Q a.lq a.L.length a.L) (hlc : a.L.length ≤ a.lc) (hn : a.n.length ≤ 1000000) (hl : a.L.length ≤ 1000000) : Rets Tryd.prog 99 #[dV x, opV o, anV a] w fun v w' =>
    v = .bool (mayM x.m o.stp a.ans) ∧ Kp none_ w w' := by
  refine ent [_, _, _] Tryd.func99 ((vcTryd99 x.mq x.m.may.length x.mc x.m.opn x.m.poisoned x.m.streaming x.wq x.m.now.length x.wc (ba x.m.name) (ba x.m.data) o.k (ba o.s) o.dq o.d.length o.dc o.N o.kq o.kn o.kc o.nm o.fi a.e a.aq a.d.length a.ac a.z a.nq a.n.length a.nc a.lq a.L.length a.lc a.re a.po w _).mpr ?_)
  obtain ⟨ka, za⟩ := laidK w (dC x) 136
  unfold dC at ka za
  generalize w.alloc _ = W1 at *
  obtain ⟨kb, zb⟩ := laidK W1 (opC o) 124
  unfold opC at kb zb
  generalize W1.alloc _ = W2 at *
  obtain ⟨kc, zc, Bc⟩ := laidB W2 (anC a) 138
  unfold anC at kc zc Bc
  generalize W2.alloc _ = W3 at *
  have kk : Kp none_ w W3.drew := ((ka.trans kb).trans kc).drew
  unfold VCTryd99
  have keepB : ∀ {W w' : World}, W3.heap.size ≤ W.heap.size → Kp none_ W w' → Keeps W w' [w.heap.size, W1.heap.size, W2.heap.size] := fun z k => k.keeps fun b hb => ⟨by simp at hb; omega, id⟩
  have L : ∀ {z : Bool} {w' : World} {P : Prop}, Kp none_ w w' → z = mayM x.m o.stp a.ans → P → ∃ v, Ending.returned (.bool z) = Ending.returned v ∧ v = .bool (mayM x.m o.stp a.ans) ∧ Kp none_ w w' := fun k e _ => ⟨_, rfl, by rw [e], k⟩
  have xr : ∀ {w' : World}, Kp none_ w w' → DRd w' x := fun k => (hx.rd ok).kp0 k
  have ar : ∀ {w' : World}, Kp none_ w w' → AnAt w' a := fun k => han.kp0 k
  have zz : ∀ {w' : World}, Kp none_ W3.drew w' → W3.heap.size ≤ w'.heap.size := fun k => k.size
  intro _
  refine (c148 (Q := Q) x (hx.kp kk fun i _ hi => ⟨id, hi⟩) ok (fun i hi => by have := hQ i hi; show i < W3.heap.size; omega) o a (ha.kp kk fun i _ hi => ⟨id, hi⟩) hlc).mono ?_
  rintro v w1 ⟨p, rfl, hp, pa, k1⟩
  have K1 := kk.trans k1
  have cl : ∀ j u, ([.int .i64 a.e, .slice a.aq a.d.length a.ac, .int .i64 a.z, .slice a.nq a.n.length a.nc, .slice a.lq a.L.length a.lc, .bool a.re, .bool a.po] : List Value)[j]? = some u → w1.cell? ((⟨W2.heap.size, 0, none⟩ : Addr).add j) = some u := fun j u hu => by
    rw [ad_add, Nat.zero_add]
    have h3 : W3.drew.cell? ⟨W2.heap.size, j, none⟩ = some u := by
      show W3.cell? ⟨W2.heap.size, j, none⟩ = some u
      rw [Bc.cell]
      exact hu
    exact k1.cell0 h3
  refine ⟨_, _, _, _, _, _, _, _, _, _, _, _, _, rfl, keepB (Nat.le_refl _) k1, ⟨cl 0 _ rfl, cl 1 _ rfl, cl 2 _ rfl, cl 3 _ rfl, cl 4 _ rfl, cl 5 _ rfl, cl 6 _ rfl, trivial⟩, ?_⟩
  intro _
  refine (c147 a p (ar K1) pa hn hl).mono ?_
  rw [hp]
  rintro v w2 ⟨rfl, k2⟩
  have K2 := K1.trans k2
  have s1 : W3.heap.size ≤ w1.heap.size := zz k1
  have s2 : W3.heap.size ≤ w2.heap.size := Nat.le_trans s1 k2.size
  refine ⟨_, rfl, keepB s1 k2, bif_not (fun h => L K2 (by unfold mayM; rw [h]; rfl)) (fun hA => ?_)⟩
  refine ⟨fun w' => Kp none_ w w' ∧ W3.heap.size ≤ w'.heap.size ∧ firstM x.m o.stp a.ans = true, ?_, ?_⟩
  · rintro w19 ⟨K19, s19, hF⟩ _
    refine ⟨fun w' => Kp none_ w w' ∧ W3.heap.size ≤ w'.heap.size ∧ secondM x.m o.stp a.ans = true, ?_, ?_⟩
    · rintro w21 ⟨K21, s21, hS⟩ _ _
      have mp : mayM x.m o.stp a.ans = poisonM x.m o.stp a.ans := by
        unfold mayM
        rw [hA, hF, hS]
        rfl
      refine (c151 x o a).mono ?_
      rintro v w23 ⟨rfl, k23⟩
      have K23 := K21.trans k23
      have s23 : W3.heap.size ≤ w23.heap.size := Nat.le_trans s21 k23.size
      refine ⟨_, rfl, keepB s21 k23, bif_not (fun h => L K23 (by rw [mp]; unfold poisonM; rw [if_pos (.inl h)])) (fun hop => bif_not (fun h => L K23 (by rw [mp]; unfold poisonM; rw [if_pos (.inr h)])) (fun hmo => ?_))⟩
      have e1 : poisonM x.m o.stp a.ans = if a.re = true ∧ o.k = 12 then a.po else ((a.re && o.k == 13) || a.po == x.m.poisoned) := by
        unfold poisonM
        rw [if_neg (by rw [hop, hmo]; simp)]
      refine ⟨fun w' => Kp none_ w w' ∧ ¬ (a.re = true ∧ o.k = 12), ?_, ?_⟩
      · rintro w26 ⟨K26, h12⟩ _
        rw [if_neg h12] at e1
        refine bif_b (fun hr => bif_eq (fun h13 => L K26 (by rw [mp, e1, hr, h13]; rfl)) (fun h13 => L K26 (by rw [mp, e1]; simp [hr, h13]))) (fun hr => L K26 (by rw [mp, e1]; simp [hr]))
      · refine bif_b (fun hr => bif_eq (fun h12 => L K23 (by rw [mp, e1, if_pos ⟨hr, h12⟩])) (fun h12 => ⟨rfl, K23, fun h => h12 h.2⟩)) (fun hr => ⟨rfl, K23, fun h => by rw [hr] at h; cases h.1⟩)
    · have can : ∀ {K : Bool → World → Prop} {P : Prop}, (∀ w', Kp none_ w w' → W3.heap.size ≤ w'.heap.size → K (canM x.m (true, a.L)) w') → P → Rets Tryd.prog 102 #[.agg #[.slice x.mq x.m.may.length x.mc, .bool x.m.opn, .bool x.m.poisoned, .bool x.m.streaming, .slice x.wq x.m.now.length x.wc, .string (ba x.m.name), .string (ba x.m.data)], .agg #[.bool true, .slice a.lq a.L.length a.lc]] w19 fun v w' => ∃ t : Bool, v = .bool t ∧ Keeps w19 w' [w.heap.size, W1.heap.size, W2.heap.size] ∧ K t w' := fun {K P} f _ => by
        refine (c102 x (xr K19) ⟨true, a.L, a.lq, a.lc⟩ (ar K19).fil).mono ?_
        rintro v w' ⟨rfl, k⟩
        exact ⟨_, rfl, keepB s19 k, f w' (K19.trans k) (Nat.le_trans s19 k.size)⟩
      have no2 : ¬ (a.re = false ∧ a.e = 0 ∧ (o.k = 2 ∨ o.k = 15)) → secondM x.m o.stp a.ans = true := fun h => by
        unfold secondM
        rw [if_neg h]
      have yes2 : a.re = false → a.e = 0 → (o.k = 2 ∨ o.k = 15) → secondM x.m o.stp a.ans = canM x.m (true, a.L) := fun h1 h2 h3 => by
        unfold secondM
        rw [if_pos ⟨h1, h2, h3⟩]
      have both : a.re = false → a.e = 0 → (o.k = 2 ∨ o.k = 15) → ∀ w', Kp none_ w w' → W3.heap.size ≤ w'.heap.size → ∀ {P : Prop}, bif !(canM x.m (true, a.L)) then (P → ∃ v, Ending.returned (.bool false) = Ending.returned v ∧ v = .bool (mayM x.m o.stp a.ans) ∧ Kp none_ w w') else (True ∧ (Kp none_ w w' ∧ W3.heap.size ≤ w'.heap.size ∧ secondM x.m o.stp a.ans = true)) := fun h1 h2 h3 w' K' s' {P} => bif_not (fun h => L K' (by unfold mayM; rw [hA, hF, yes2 h1 h2 h3, h]; rfl)) (fun h => ⟨trivial, K', s', by rw [yes2 h1 h2 h3, h]⟩)
      refine bif_not (fun hr => bif_eq (fun he => bif_eq (fun h2 => can fun w' K' s' => ?_) (fun h2 => bif_eq (fun h15 => can fun w' K' s' => ?_) (fun h15 => ⟨rfl, K19, s19, no2 (fun h => h.2.2.elim h2 h15)⟩))) (fun he => ⟨rfl, K19, s19, no2 (fun h => he h.2.1)⟩)) (fun hr => ⟨rfl, K19, s19, no2 (fun h => by rw [hr] at h; cases h.1)⟩)
      · exact bif_not (fun h => L K' (by unfold mayM; rw [hA, hF, yes2 hr he (.inl h2), h]; rfl)) (fun h => ⟨rfl, K', s', by rw [yes2 hr he (.inl h2), h]⟩)
      · exact bif_not (fun h => L K' (by unfold mayM; rw [hA, hF, yes2 hr he (.inr h15), h]; rfl)) (fun h => ⟨rfl, K', s', by rw [yes2 hr he (.inr h15), h]⟩)
  · have told : ∀ {W : World} {z : Int} {K : Bool → World → Prop} {P : Prop}, Kp none_ w W → W3.heap.size ≤ W.heap.size → (∀ w', Kp none_ w w' → W3.heap.size ≤ w'.heap.size → K (toldM x.m o.stp z) w') → P → Rets Tryd.prog 150 #[.agg #[.slice x.mq x.m.may.length x.mc, .bool x.m.opn, .bool x.m.poisoned, .bool x.m.streaming, .slice x.wq x.m.now.length x.wc, .string (ba x.m.name), .string (ba x.m.data)], .agg #[.int .i64 o.k, .string (ba o.s), .slice o.dq o.d.length o.dc, .int .i64 o.N, .slice o.kq o.kn o.kc, .int .i64 o.nm, .int .u8 o.fi], .int .i64 z] W fun v w' => ∃ t : Bool, v = .bool t ∧ Keeps W w' [w.heap.size, W1.heap.size, W2.heap.size] ∧ K t w' := fun {W z K P} KW sW f _ => by
      refine (c150 x (xr KW) o z).mono ?_
      rintro v w' ⟨rfl, k⟩
      exact ⟨_, rfl, keepB sW k, f w' (KW.trans k) (Nat.le_trans sW k.size)⟩
    refine bif_b (fun hr _ => ?_) (fun hr => told K2 s2 fun w' K' s' => ?_)
    · refine (c149 o.k w2).mono ?_
      rintro v w3 ⟨rfl, k3⟩
      have K3 := K2.trans k3
      have s3 : W3.heap.size ≤ w3.heap.size := Nat.le_trans s2 k3.size
      have f1 : firstM x.m o.stp a.ans = (callsM o.k && toldM x.m o.stp 0 && (a.e == 10 || a.e == 9)) := by
        unfold firstM
        rw [if_pos (show a.ans.refused = true from hr)]
      refine ⟨_, rfl, keepB s2 k3, bif_not (fun h => L K3 (by unfold mayM; rw [f1, h]; simp)) (fun hc => told K3 s3 fun w' K' s' => bif_not (fun h => L K' (by unfold mayM; rw [f1, h]; simp)) (fun ht => ?_))⟩
      refine bif_ne (fun h10 => bif_ne (fun h9 => L K' (by unfold mayM; rw [f1]; simp [h10, h9])) (fun h9 => ⟨rfl, K', s', by rw [f1, hc, ht, h9]; rfl⟩)) (fun h10 => ⟨rfl, K', s', by rw [f1, hc, ht, h10]; rfl⟩)
    · have f1 : firstM x.m o.stp a.ans = toldM x.m o.stp a.e := by
        unfold firstM
        rw [if_neg (show ¬ a.ans.refused = true by show ¬ a.re = true; rw [hr]; decide)]
      exact bif_not (fun h => L K' (by unfold mayM; rw [f1, h]; simp)) (fun h => ⟨rfl, K', s', by rw [f1, h]⟩)
end Go.Proofs.YtbpknjldphckgaaDoor

namespace Go.Proofs.YtbpknjldphckgaaDoor
open Go Go.SX Go.Proofs Go.Lib
set_option maxRecDepth 100000
set_option linter.unusedVariables false
set_option linter.unusedSimpArgs false
/-- Both models, and how great they are. -/
structure Bd (p m : MM) (n : Nat) : Prop where
  rel : RelM p m
  may : m.may.length ≤ n + 1
  fmay : ∀ x ∈ m.may, ∀ f ∈ x.2, f.2.length ≤ 70000
  fnow : ∀ f ∈ m.now, f.2.length ≤ 70000
  pd : p.data.length ≤ 65536
  md : m.data.length ≤ 65536
theorem Bd.up {p m : MM} {n : Nat} (h : Bd p m n) : Bd p m (n + 1) := ⟨h.rel, by have := h.may; omega, h.fmay, h.fnow, h.pd, h.md⟩
theorem bd_new : Bd newM newM 0 := ⟨relM_new, by decide, (fun x hx f hf => by
  have : x = (false, []) := by simpa [newM] using hx
  subst this
  cases hf), (fun f hf => by cases hf), by decide, by decide⟩
theorem Bd.okP {p m : MM} {n : Nat} (h : Bd p m n) (hn : n ≤ 1000) : OkP p := by
  have r := h.rel
  have hm := h.may
  refine ⟨by rw [r.now]; exact r.okNow.1, by rw [r.now]; exact ⟨by have := r.okNow.2; omega, fun f hf => by have := h.fnow f hf; omega⟩, fun x hx => ?_, by rw [r.may]; omega, by have := h.pd; omega, fun _ => h.pd⟩
  rw [r.may] at hx
  exact ⟨by have := (r.okMay x hx).2; omega, fun f hf => by have := h.fmay x hx f hf; omega⟩
theorem Bd.dok {p m : MM} {n : Nat} (h : Bd p m n) (hn : n ≤ 1000) : DOk m := ⟨by have := h.may; omega, by have := h.rel.okNow.2; omega, fun y hy => by have := (h.rel.okMay y hy).2; omega, by have := h.md; omega, h.rel.okNow.1⟩
theorem withK_in {l : List Fil} (ha : Asc Prod.fst l) {s : List UInt8} {b x : Fil} (hx : x ∈ withK Prod.fst l s b) : x = b ∨ x ∈ l := by
  rw [withK_eq ha] at hx
  rcases List.mem_append.1 hx with h | h
  · exact .inr (List.mem_of_mem_take h)
  · rcases List.mem_cons.1 h with h | h
    · exact .inl h
    · exact .inr (List.mem_of_mem_drop h)
theorem can_in {m : MM} {l : List Fil} (h : canM m (true, l) = true) : ∃ x ∈ m.may, x.2 = l := by
  unfold canM at h
  rw [List.any_eq_true] at h
  obtain ⟨x, hx, e⟩ := h
  simp at e
  exact ⟨x, hx, e.2⟩
theorem can_step {m : MM} {o : Stp} {a : Ans} (h : mayM m o a = true) (hr : ¬ a.refused = true) (he : a.e = 0) (h2 : o.kind = 2) : canM m (true, a.files) = true := by
  have hs := (may_first h).2
  unfold secondM at hs
  rw [if_pos ⟨by simpa using hr, he, .inl h2⟩] at hs
  exact hs
theorem base_may (m : MM) (o : Stp) (a : Ans) : ((baseM m o a).may = m.may ∨ (baseM m o a).may = [(false, [])]) ∧ ((baseM m o a).now = m.now ∨ (baseM m o a).now = []) ∧ (baseM m o a).data = m.data := by
  unfold baseM
  refine ⟨?_, ?_, rfl⟩
  · by_cases c : o.kind = 2 ∧ a.e = 7
    · exact .inr (if_pos c)
    · exact .inl (if_neg c)
  · by_cases c : openM m o a = false
    · exact .inr (if_pos c)
    · exact .inl (if_neg c)
/-- What a step may leave in either model's data: bounded. -/
theorem ins_five {m : MM} {o : Stp} {a : Ans} (h : mayM m o a = true) (hr : ¬ a.refused = true) (he : a.e = 0) (h5 : o.kind = 5) : (o.data.length : Int) ≤ 65536 - m.data.length := by
  have hf := (may_first h).1
  unfold firstM at hf
  rw [if_neg hr, he] at hf
  have := (told_open hf (by omega)).2
  rw [ins5 h5] at this
  split at this
  · cases this
  · split at this
    · cases this
    · omega
theorem Bd.step {p m : MM} {n : Nat} (h : Bd p m n) {o : Stp} {a : Ans} (hm : mayM m o a = true) (ho : o.data.length ≤ 70000) : Bd (stepP p o a) (stepM m o a) (n + 1) := by
  have hr := rel_step h.rel hm
  have hl := h.may
  obtain ⟨bm, bn, bd⟩ := base_may m o a
  have asc := h.rel.okNow.1
  have bmay : (baseM m o a).may.length ≤ n + 1 ∧ ∀ x ∈ (baseM m o a).may, ∀ f ∈ x.2, f.2.length ≤ 70000 := by
    rcases bm with e | e
    · rw [e]; exact ⟨hl, h.fmay⟩
    · rw [e]
      refine ⟨by simp, fun x hx f hf => ?_⟩
      rw [List.mem_singleton] at hx
      subst hx
      cases hf
  have bnow : ∀ f ∈ (baseM m o a).now, f.2.length ≤ 70000 := by
    rcases bn with e | e
    · rw [e]; exact h.fnow
    · rw [e]; exact fun f hf => by cases hf
  have one : ∀ (t : Bool) (L : List Fil), (∀ f ∈ L, f.2.length ≤ 70000) → ([(t, L)] : List (Bool × List Fil)).length ≤ n + 1 + 1 ∧ ∀ x ∈ [(t, L)], ∀ f ∈ x.2, f.2.length ≤ 70000 := fun t L hL => ⟨by simp, fun x hx => by rw [List.mem_singleton] at hx; subst hx; exact hL⟩
  have snoc : ∀ (t : Bool) (L : List Fil), (∀ f ∈ L, f.2.length ≤ 70000) → (m.may ++ [(t, L)]).length ≤ n + 1 + 1 ∧ ∀ x ∈ m.may ++ [(t, L)], ∀ f ∈ x.2, f.2.length ≤ 70000 := fun t L hL => ⟨by simp; omega, fun x hx => by
    rcases List.mem_append.1 hx with hx | hx
    · exact h.fmay x hx
    · rw [List.mem_singleton] at hx; subst hx; exact hL⟩
  have b1 : (baseM m o a).may.length ≤ n + 1 + 1 ∧ ∀ x ∈ (baseM m o a).may, ∀ f ∈ x.2, f.2.length ≤ 70000 := ⟨by have := bmay.1; omega, bmay.2⟩
  have nil : ∀ f ∈ ([] : List Fil), f.2.length ≤ 70000 := fun f hf => by cases hf
  -- the document's
  have key : ((stepM m o a).may.length ≤ n + 1 + 1 ∧ ∀ x ∈ (stepM m o a).may, ∀ f ∈ x.2, f.2.length ≤ 70000) ∧ (∀ f ∈ (stepM m o a).now, f.2.length ≤ 70000) ∧ (stepM m o a).data.length ≤ 65536 := by
    unfold stepM
    by_cases c : a.refused = true
    · rw [if_pos c]
      refine ⟨?_, bnow, by show (baseM m o a).data.length ≤ _; rw [bd]; exact h.md⟩
      show (if 12 ≤ o.kind ∧ o.kind ≤ 14 then m.may ++ [(true, m.now)] else if o.kind = 1 then m.may ++ [(true, [])] else (baseM m o a).may).length ≤ _ ∧ ∀ x ∈ (if 12 ≤ o.kind ∧ o.kind ≤ 14 then m.may ++ [(true, m.now)] else if o.kind = 1 then m.may ++ [(true, [])] else (baseM m o a).may), _
      split
      · exact snoc _ _ h.fnow
      · split
        · exact snoc _ _ nil
        · exact b1
    · rw [if_neg c]
      by_cases e : a.e = 0
      · rw [if_pos e]
        have dm : (baseM m o a).data.length ≤ 65536 := by rw [bd]; exact h.md
        unfold doneM
        by_cases k1 : o.kind = 1
        · rw [if_pos k1]; exact ⟨one _ _ nil, bnow, dm⟩
        rw [if_neg k1]
        by_cases k2 : o.kind = 2
        · rw [if_pos k2]
          obtain ⟨x, hx, ex⟩ := can_in (can_step hm c e k2)
          have hf : ∀ f ∈ a.files, f.2.length ≤ 70000 := fun f hf => h.fmay x hx f (by rw [ex]; exact hf)
          exact ⟨one _ _ hf, hf, dm⟩
        rw [if_neg k2]
        by_cases k3 : o.kind = 3
        · rw [if_pos k3]
          refine ⟨b1, fun f hf => ?_, dm⟩
          rcases withK_in asc hf with e | e
          · rw [e]; exact ho
          · exact h.fnow f e
        rw [if_neg k3]
        by_cases k4 : o.kind = 4
        · rw [if_pos k4]; exact ⟨b1, bnow, Nat.zero_le _⟩
        rw [if_neg k4]
        by_cases k5 : o.kind = 5
        · rw [if_pos k5]
          have := ins_five hm c e k5
          exact ⟨b1, bnow, by show (m.data ++ o.data).length ≤ _; rw [List.length_append]; omega⟩
        rw [if_neg k5]
        by_cases k6 : o.kind = 6
        · rw [if_pos k6]
          refine ⟨b1, fun f hf => ?_, dm⟩
          rcases withK_in asc hf with e | e
          · rw [e]; have := h.md; show m.data.length ≤ _; omega
          · exact h.fnow f e
        rw [if_neg k6]
        by_cases k7 : o.kind = 7
        · rw [if_pos k7]; exact ⟨b1, bnow, dm⟩
        rw [if_neg k7]
        by_cases k11 : o.kind = 11
        · rw [if_pos k11]
          exact ⟨b1, fun f hf => h.fnow f (List.mem_filter.1 hf).1, dm⟩
        rw [if_neg k11]
        by_cases k12 : o.kind = 12 ∨ o.kind = 13 ∨ o.kind = 14
        · rw [if_pos k12]; exact ⟨one _ _ h.fnow, bnow, dm⟩
        rw [if_neg k12]
        exact ⟨b1, bnow, dm⟩
      · rw [if_neg e]
        exact ⟨b1, bnow, by rw [bd]; exact h.md⟩
  have pkey : (stepP p o a).data.length ≤ 65536 := by
    have hp : mayM p o a = true := by rw [may_rel h.rel]; exact hm
    have mid : (midP p o a).data.length ≤ 65536 := by
      unfold midP
      by_cases c : a.refused = true
      · rw [if_pos c]
        unfold refusedP
        split
        · exact h.pd
        · split
          · exact h.pd
          · exact h.pd
      · rw [if_neg c]
        by_cases e : a.e = 0
        · rw [if_pos e]
          unfold doneP
          by_cases k1 : o.kind = 1
          · rw [if_pos k1]; exact h.pd
          rw [if_neg k1]
          by_cases k2 : o.kind = 2
          · rw [if_pos k2]; exact h.pd
          rw [if_neg k2]
          by_cases k3 : o.kind = 3
          · rw [if_pos k3]; exact h.pd
          rw [if_neg k3]
          by_cases k4 : o.kind = 4
          · rw [if_pos k4]; exact Nat.zero_le _
          rw [if_neg k4]
          by_cases k5 : o.kind = 5
          · rw [if_pos k5]
            have := ins_five hp c e k5
            show (p.data ++ o.data).length ≤ _
            rw [List.length_append]; omega
          rw [if_neg k5]
          by_cases k6 : o.kind = 6
          · rw [if_pos k6]; exact h.pd
          rw [if_neg k6]
          by_cases k7 : o.kind = 7
          · rw [if_pos k7]; exact h.pd
          rw [if_neg k7]
          by_cases k11 : o.kind = 11
          · rw [if_pos k11]; exact h.pd
          rw [if_neg k11]
          by_cases k12 : o.kind = 12 ∨ o.kind = 13 ∨ o.kind = 14
          · rw [if_pos k12]; exact h.pd
          rw [if_neg k12]
          exact h.pd
        · rw [if_neg e]
          split
          · exact h.pd
          · exact h.pd
    unfold stepP endP
    split
    · exact Nat.zero_le _
    · exact mid
  exact ⟨hr, key.1.1, key.1.2, key.2.1, pkey, key.2.2⟩
/-! ### Moves -/
/-- A step, the answer that it is given, a state that is asked for behind it. -/
structure Mvv where
  o : Ox
  a : Ax
  s : Stx
def mvC (x : Mvv) : List Value := [.int .i64 x.o.k, .string (ba x.o.s), .slice x.o.dq x.o.d.length x.o.dc, .int .i64 x.o.N, .slice x.o.kq x.o.kn x.o.kc, .int .i64 x.o.nm, .int .u8 x.o.fi,
  .int .i64 x.a.e, .slice x.a.aq x.a.d.length x.a.ac, .int .i64 x.a.z, .slice x.a.nq x.a.n.length x.a.nc, .slice x.a.lq x.a.L.length x.a.lc, .bool x.a.re, .bool x.a.po, .bool x.s.t, .slice x.s.q x.s.L.length x.s.c]
structure MvAt (w : World) (x : Mvv) : Prop where
  o : OpAt w x.o
  a : AnAt w x.a
  s : FRd w x.s.q x.s.L.length x.s.L
  lc : x.a.L.length ≤ x.a.lc ∧ x.a.lc ≤ maxLen
  sc : x.s.L.length ≤ maxLen
structure MvS (x : Mvv) : Prop where
  os : x.o.s.length ≤ 300
  od : x.o.d.length ≤ 70000
  ad : x.a.d.length ≤ 70000
  an : x.a.n.length ≤ 300
  al : x.a.L.length ≤ 250
  af : ∀ f ∈ x.a.L, f.2.length ≤ 70000
  sl : x.s.L.length ≤ 250
theorem mv_at {w : World} {q : Option Addr} {l : List Mvv} (h : RowsAt w 16 mvC q l) {i : Nat} (hi : i < l.length) {K : Addr → Prop} (hK : ∀ a, q = some a → (∀ j k u, (mvC l[i])[j + k]? = some u → w.cell? (((a.add (((i : Int).toNat) * 16)).add j).add k) = some u) → K a) : Ptr q K := by
  obtain ⟨a, e, hc⟩ := h i hi
  subst e
  rw [ptr_some]
  refine hK a rfl fun j k u hu => ?_
  rw [Int.toNat_natCast, add_add (a.add (i * 16))]
  exact hc (j + k) u hu
theorem c96 {w : World} {q : Option Addr} {c : Nat} {l : List Mvv} (h : RowsAt w 16 mvC q l) (hl : ∀ x ∈ l, MvAt w x) (hm : l.length ≤ maxLen) : Rets Tryd.prog 96 #[.slice q l.length c] w fun v w' => w' = w ∧ ∃ t, v = .bool t ∧ (t = false → l.length ≤ 60 ∧ ∀ x ∈ l, MvS x) := by
  refine ent [_] Tryd.func96 ((vcTryd96 _ _ _ w _).mpr ?_)
  unfold VCTryd96
  have yes : ∃ v, Ending.returned (.bool true) = Ending.returned v ∧ w = w ∧ ∃ t, v = .bool t ∧ (t = false → l.length ≤ 60 ∧ ∀ x ∈ l, MvS x) := ⟨_, rfl, rfl, _, rfl, fun e => by cases e⟩
  have hm' : l.length ≤ 9223372036854775807 := by simpa [maxLen] using hm
  refine ⟨fun i w' => ∃ j : Nat, i = j ∧ j ≤ 100 ∧ w' = w ∧ ∀ k (hk : k < l.length), k < j → MvS l[k], fun i _ => (l.length - i).toNat, ⟨0, rfl, by omega, rfl, fun k hk h => by omega⟩, ?_⟩
  rintro i w1 ⟨j, rfl, h1, rfl, hs⟩
  refine bif_dec (fun hi => bif_dec (fun hj => ?_) (fun hj => ?_)) (fun hi => ?_)
  · have hlj : j < l.length := by omega
    have ho : ∀ {P : Prop}, P → ((0 : Int) ≤ (j : Int) ∧ (j : Int) < l.length) ∧ P := fun h => ⟨⟨by omega, hi⟩, h⟩
    have ma := hl _ (List.getElem_mem hlj)
    obtain ⟨fl, fe, fn, fx, _⟩ := ma.a.fil
    obtain ⟨sl, se, sn, sx, _⟩ := ma.s
    refine ho (mv_at h hlj fun a _ hc => ⟨_, hc 0 1 _ rfl, bif_dec (fun _ => yes) (fun b1 => ho (mv_at h hlj fun a _ hc => ⟨_, _, _, hc 0 2 _ rfl, bif_dec (fun _ => yes) (fun b2 => ho (mv_at h hlj fun a _ hc => ⟨_, _, _, hc 7 1 _ rfl, bif_dec (fun _ => yes) (fun b3 => ho (mv_at h hlj fun a _ hc => ⟨_, _, _, hc 7 3 _ rfl, bif_dec (fun _ => yes) (fun b4 => ho (mv_at h hlj fun a _ hc => ⟨_, _, _, hc 7 4 _ rfl, ?_⟩))⟩))⟩))⟩))⟩)
    rw [ba_size] at b1
    have mx : maxLen ≤ 9223372036854775807 := by simp [maxLen]
    have lc := ma.lc
    have sc := ma.sc
    have el : (l[j].a.L.length = fl.length) := fn
    have es : (l[j].s.L.length = sl.length) := sn
    rw [el]
    refine (c82 fx (by omega)).mono ?_
    rintro v w2 ⟨t, rfl, e, ht⟩
    obtain rfl := e.symm
    refine ⟨_, rfl, (Kp.refl none_ _).keeps0, bif_b (fun _ => yes) (fun htf => ho (mv_at h hlj fun a _ hc => ⟨_, _, _, hc 14 1 _ rfl, ?_⟩))⟩
    rw [es]
    refine (c82 sx (by omega)).mono ?_
    rintro v w3 ⟨t3, rfl, e, ht3⟩
    obtain rfl := e.symm
    refine ⟨_, rfl, (Kp.refl none_ _).keeps0, bif_b (fun _ => yes) (fun htf3 => wr64 (by omega) ⟨⟨j + 1, by omega, by omega, rfl, fun k hk hkj => ?_⟩, by first | omega | (dsimp only; omega)⟩)⟩
    by_cases e : k = j
    · subst e
      obtain ⟨g1, g2⟩ := ht htf
      obtain ⟨g3, _⟩ := ht3 htf3
      refine ⟨by omega, by omega, by omega, by omega, by omega, fun f hf => ?_, by omega⟩
      rw [← fe] at hf
      obtain ⟨y, hy, rfl⟩ := List.mem_map.1 hf
      exact (g2 y hy).2
    · exact hs k hk (by omega)
  · exact ⟨_, rfl, rfl, _, rfl, fun e => by have := of_decide_eq_false e; omega⟩
  · exact ⟨_, rfl, rfl, _, rfl, fun e => ⟨by have := of_decide_eq_false e; omega, fun x hx => by
      obtain ⟨k, hk, rfl⟩ := List.getElem_of_mem hx
      exact hs k hk (by omega)⟩⟩
end Go.Proofs.YtbpknjldphckgaaDoor

namespace Go.Proofs.YtbpknjldphckgaaDoor
open Go Go.SX Go.Proofs
set_option maxRecDepth 100000
set_option linter.unusedVariables false
def VCTryd23 (p0 : Option Addr) (n0 c0 : Nat) (w : World) (R : Ending → World → Prop) : Prop :=
 Rets Tryd.prog (96 : Nat) #[Value.slice p0 n0 c0] w fun (v0 : Value) (w1 : World) => ∃ (t2 : Bool), v0 = Value.bool t2 ∧ Keeps w w1 [] ∧ bif t2 then
 Rets Tryd.prog (83 : Nat) #[] w1 fun (v3 : Value) (w4 : World) => ∃ (t5 : Bool), v3 = Value.bool t5 ∧ Keeps w1 w4 [] ∧ R (Ending.returned (Value.bool t5)) w4 else
 Rets Tryd.prog (97 : Nat) #[] w1 fun (v6 : Value) (w7 : World) => ∃ (q8 : Option Addr), v6 = Value.pointer q8 ∧ Keeps w1 w7 [] ∧ Rets Tryd.prog (98 : Nat) #[] w7 fun (v9 : Value) (w10 : World) => ∃ (q11 : Option Addr), ∃ (n12 : Nat), ∃ (n13 : Nat), ∃ (t14 : Bool), ∃ (t15 : Bool), ∃ (t16 : Bool), ∃ (q17 : Option Addr), ∃ (n18 : Nat), ∃ (n19 : Nat), ∃ (s20 : ByteArray), ∃ (s21 : ByteArray), v9 = Value.agg #[Value.slice q11 n12 n13, Value.bool t14, Value.bool t15, Value.bool t16, Value.slice q17 n18 n19, Value.string s20, Value.string s21] ∧ Keeps w7 w10 [] ∧ bif q8.isNone then
 Known ((((((((w10.alloc (Obj.cells #[Value.slice none (0 : Nat) (0 : Nat), Value.bool false, Value.bool false, Value.bool false, Value.slice none (0 : Nat) (0 : Nat), Value.string { data := #[] }, Value.string { data := #[] }] (136 : Nat))).setCell { block := w10.heap.size, off := (0 : Nat) } (Value.slice q11 n12 n13)).setCell { block := w10.heap.size, off := (1 : Nat) } (Value.bool t14)).setCell { block := w10.heap.size, off := (2 : Nat) } (Value.bool t15)).setCell { block := w10.heap.size, off := (3 : Nat) } (Value.bool t16)).setCell { block := w10.heap.size, off := (4 : Nat) } (Value.slice q17 n18 n19)).setCell { block := w10.heap.size, off := (5 : Nat) } (Value.string s20)).setCell { block := w10.heap.size, off := (6 : Nat) } (Value.string s21)) [(w10.heap.size, [((0 : Nat), Value.slice q11 n12 n13), ((1 : Nat), Value.bool t14), ((2 : Nat), Value.bool t15), ((3 : Nat), Value.bool t16), ((4 : Nat), Value.slice q17 n18 n19), ((5 : Nat), Value.string s20), ((6 : Nat), Value.string s21)])] → R (Ending.returned (Value.bool false)) ((((((((w10.alloc (Obj.cells #[Value.slice none (0 : Nat) (0 : Nat), Value.bool false, Value.bool false, Value.bool false, Value.slice none (0 : Nat) (0 : Nat), Value.string { data := #[] }, Value.string { data := #[] }] (136 : Nat))).setCell { block := w10.heap.size, off := (0 : Nat) } (Value.slice q11 n12 n13)).setCell { block := w10.heap.size, off := (1 : Nat) } (Value.bool t14)).setCell { block := w10.heap.size, off := (2 : Nat) } (Value.bool t15)).setCell { block := w10.heap.size, off := (3 : Nat) } (Value.bool t16)).setCell { block := w10.heap.size, off := (4 : Nat) } (Value.slice q17 n18 n19)).setCell { block := w10.heap.size, off := (5 : Nat) } (Value.string s20)).setCell { block := w10.heap.size, off := (6 : Nat) } (Value.string s21)) else
 ∃ (I22 : Int → Option Addr → Nat → Nat → Bool → Bool → Bool → Option Addr → Nat → Nat → ByteArray → ByteArray → World → Prop), ∃ (I23 : Int → Option Addr → Nat → Nat → Bool → Bool → Bool → Option Addr → Nat → Nat → ByteArray → ByteArray → World → Nat), I22 (0 : Int) q11 n12 n13 t14 t15 t16 q17 n18 n19 s20 s21 ((((((((w10.alloc (Obj.cells #[Value.slice none (0 : Nat) (0 : Nat), Value.bool false, Value.bool false, Value.bool false, Value.slice none (0 : Nat) (0 : Nat), Value.string { data := #[] }, Value.string { data := #[] }] (136 : Nat))).setCell { block := w10.heap.size, off := (0 : Nat) } (Value.slice q11 n12 n13)).setCell { block := w10.heap.size, off := (1 : Nat) } (Value.bool t14)).setCell { block := w10.heap.size, off := (2 : Nat) } (Value.bool t15)).setCell { block := w10.heap.size, off := (3 : Nat) } (Value.bool t16)).setCell { block := w10.heap.size, off := (4 : Nat) } (Value.slice q17 n18 n19)).setCell { block := w10.heap.size, off := (5 : Nat) } (Value.string s20)).setCell { block := w10.heap.size, off := (6 : Nat) } (Value.string s21)) ∧ ∀ (i24 : Int) (q25 : Option Addr) (n26 n27 : Nat) (t28 t29 t30 : Bool) (q31 : Option Addr) (n32 n33 : Nat) (s34 s35 : ByteArray) (w36 : World), I22 i24 q25 n26 n27 t28 t29 t30 q31 n32 n33 s34 s35 w36 → Known w36 [(w10.heap.size, [((0 : Nat), Value.slice q25 n26 n27), ((1 : Nat), Value.bool t28), ((2 : Nat), Value.bool t29), ((3 : Nat), Value.bool t30), ((4 : Nat), Value.slice q31 n32 n33), ((5 : Nat), Value.string s34), ((6 : Nat), Value.string s35)])] → bif decide (i24 < (↑n0 : Int)) then
 ((0 : Int) ≤ i24 ∧ i24 < (↑n0 : Int)) ∧ SX.Ptr p0 fun (a37 : Addr) => ∃ (i38 : Int), ∃ (q39 : Option Addr), ∃ (n40 : Nat), ∃ (n41 : Nat), ∃ (i42 : Int), ∃ (q43 : Option Addr), ∃ (n44 : Nat), ∃ (n45 : Nat), ∃ (q46 : Option Addr), ∃ (n47 : Nat), ∃ (n48 : Nat), ∃ (t49 : Bool), ∃ (t50 : Bool), (w36.cell? (((a37.add (i24.toNat * (16 : Nat))).add (7 : Nat)).add (0 : Nat)) = some (Value.int IntKind.i64 i38) ∧ w36.cell? (((a37.add (i24.toNat * (16 : Nat))).add (7 : Nat)).add (1 : Nat)) = some (Value.slice q39 n40 n41) ∧ w36.cell? (((a37.add (i24.toNat * (16 : Nat))).add (7 : Nat)).add (2 : Nat)) = some (Value.int IntKind.i64 i42) ∧ w36.cell? (((a37.add (i24.toNat * (16 : Nat))).add (7 : Nat)).add (3 : Nat)) = some (Value.slice q43 n44 n45) ∧ w36.cell? (((a37.add (i24.toNat * (16 : Nat))).add (7 : Nat)).add (4 : Nat)) = some (Value.slice q46 n47 n48) ∧ w36.cell? (((a37.add (i24.toNat * (16 : Nat))).add (7 : Nat)).add (5 : Nat)) = some (Value.bool t49) ∧ w36.cell? (((a37.add (i24.toNat * (16 : Nat))).add (7 : Nat)).add (6 : Nat)) = some (Value.bool t50) ∧ True) ∧ ((0 : Int) ≤ i24 ∧ i24 < (↑n0 : Int)) ∧ SX.Ptr p0 fun (a51 : Addr) => ∃ (i52 : Int), ∃ (s53 : ByteArray), ∃ (q54 : Option Addr), ∃ (n55 : Nat), ∃ (n56 : Nat), ∃ (i57 : Int), ∃ (q58 : Option Addr), ∃ (n59 : Nat), ∃ (n60 : Nat), ∃ (i61 : Int), ∃ (i62 : Int), (((((((((w36.alloc (Obj.cells #[Value.int IntKind.i64 (0 : Int), Value.slice none (0 : Nat) (0 : Nat), Value.int IntKind.i64 (0 : Int), Value.slice none (0 : Nat) (0 : Nat), Value.slice none (0 : Nat) (0 : Nat), Value.bool false, Value.bool false] (138 : Nat))).setCell { block := w36.heap.size, off := (0 : Nat) } (Value.int IntKind.i64 i38)).setCell { block := w36.heap.size, off := (1 : Nat) } (Value.slice q39 n40 n41)).setCell { block := w36.heap.size, off := (2 : Nat) } (Value.int IntKind.i64 i42)).setCell { block := w36.heap.size, off := (3 : Nat) } (Value.slice q43 n44 n45)).setCell { block := w36.heap.size, off := (4 : Nat) } (Value.slice q46 n47 n48)).setCell { block := w36.heap.size, off := (5 : Nat) } (Value.bool t49)).setCell { block := w36.heap.size, off := (6 : Nat) } (Value.bool t50)).drew.cell? (((a51.add (i24.toNat * (16 : Nat))).add (0 : Nat)).add (0 : Nat)) = some (Value.int IntKind.i64 i52) ∧ ((((((((w36.alloc (Obj.cells #[Value.int IntKind.i64 (0 : Int), Value.slice none (0 : Nat) (0 : Nat), Value.int IntKind.i64 (0 : Int), Value.slice none (0 : Nat) (0 : Nat), Value.slice none (0 : Nat) (0 : Nat), Value.bool false, Value.bool false] (138 : Nat))).setCell { block := w36.heap.size, off := (0 : Nat) } (Value.int IntKind.i64 i38)).setCell { block := w36.heap.size, off := (1 : Nat) } (Value.slice q39 n40 n41)).setCell { block := w36.heap.size, off := (2 : Nat) } (Value.int IntKind.i64 i42)).setCell { block := w36.heap.size, off := (3 : Nat) } (Value.slice q43 n44 n45)).setCell { block := w36.heap.size, off := (4 : Nat) } (Value.slice q46 n47 n48)).setCell { block := w36.heap.size, off := (5 : Nat) } (Value.bool t49)).setCell { block := w36.heap.size, off := (6 : Nat) } (Value.bool t50)).drew.cell? (((a51.add (i24.toNat * (16 : Nat))).add (0 : Nat)).add (1 : Nat)) = some (Value.string s53) ∧ ((((((((w36.alloc (Obj.cells #[Value.int IntKind.i64 (0 : Int), Value.slice none (0 : Nat) (0 : Nat), Value.int IntKind.i64 (0 : Int), Value.slice none (0 : Nat) (0 : Nat), Value.slice none (0 : Nat) (0 : Nat), Value.bool false, Value.bool false] (138 : Nat))).setCell { block := w36.heap.size, off := (0 : Nat) } (Value.int IntKind.i64 i38)).setCell { block := w36.heap.size, off := (1 : Nat) } (Value.slice q39 n40 n41)).setCell { block := w36.heap.size, off := (2 : Nat) } (Value.int IntKind.i64 i42)).setCell { block := w36.heap.size, off := (3 : Nat) } (Value.slice q43 n44 n45)).setCell { block := w36.heap.size, off := (4 : Nat) } (Value.slice q46 n47 n48)).setCell { block := w36.heap.size, off := (5 : Nat) } (Value.bool t49)).setCell { block := w36.heap.size, off := (6 : Nat) } (Value.bool t50)).drew.cell? (((a51.add (i24.toNat * (16 : Nat))).add (0 : Nat)).add (2 : Nat)) = some (Value.slice q54 n55 n56) ∧ ((((((((w36.alloc (Obj.cells #[Value.int IntKind.i64 (0 : Int), Value.slice none (0 : Nat) (0 : Nat), Value.int IntKind.i64 (0 : Int), Value.slice none (0 : Nat) (0 : Nat), Value.slice none (0 : Nat) (0 : Nat), Value.bool false, Value.bool false] (138 : Nat))).setCell { block := w36.heap.size, off := (0 : Nat) } (Value.int IntKind.i64 i38)).setCell { block := w36.heap.size, off := (1 : Nat) } (Value.slice q39 n40 n41)).setCell { block := w36.heap.size, off := (2 : Nat) } (Value.int IntKind.i64 i42)).setCell { block := w36.heap.size, off := (3 : Nat) } (Value.slice q43 n44 n45)).setCell { block := w36.heap.size, off := (4 : Nat) } (Value.slice q46 n47 n48)).setCell { block := w36.heap.size, off := (5 : Nat) } (Value.bool t49)).setCell { block := w36.heap.size, off := (6 : Nat) } (Value.bool t50)).drew.cell? (((a51.add (i24.toNat * (16 : Nat))).add (0 : Nat)).add (3 : Nat)) = some (Value.int IntKind.i64 i57) ∧ ((((((((w36.alloc (Obj.cells #[Value.int IntKind.i64 (0 : Int), Value.slice none (0 : Nat) (0 : Nat), Value.int IntKind.i64 (0 : Int), Value.slice none (0 : Nat) (0 : Nat), Value.slice none (0 : Nat) (0 : Nat), Value.bool false, Value.bool false] (138 : Nat))).setCell { block := w36.heap.size, off := (0 : Nat) } (Value.int IntKind.i64 i38)).setCell { block := w36.heap.size, off := (1 : Nat) } (Value.slice q39 n40 n41)).setCell { block := w36.heap.size, off := (2 : Nat) } (Value.int IntKind.i64 i42)).setCell { block := w36.heap.size, off := (3 : Nat) } (Value.slice q43 n44 n45)).setCell { block := w36.heap.size, off := (4 : Nat) } (Value.slice q46 n47 n48)).setCell { block := w36.heap.size, off := (5 : Nat) } (Value.bool t49)).setCell { block := w36.heap.size, off := (6 : Nat) } (Value.bool t50)).drew.cell? (((a51.add (i24.toNat * (16 : Nat))).add (0 : Nat)).add (4 : Nat)) = some (Value.slice q58 n59 n60) ∧ ((((((((w36.alloc (Obj.cells #[Value.int IntKind.i64 (0 : Int), Value.slice none (0 : Nat) (0 : Nat), Value.int IntKind.i64 (0 : Int), Value.slice none (0 : Nat) (0 : Nat), Value.slice none (0 : Nat) (0 : Nat), Value.bool false, Value.bool false] (138 : Nat))).setCell { block := w36.heap.size, off := (0 : Nat) } (Value.int IntKind.i64 i38)).setCell { block := w36.heap.size, off := (1 : Nat) } (Value.slice q39 n40 n41)).setCell { block := w36.heap.size, off := (2 : Nat) } (Value.int IntKind.i64 i42)).setCell { block := w36.heap.size, off := (3 : Nat) } (Value.slice q43 n44 n45)).setCell { block := w36.heap.size, off := (4 : Nat) } (Value.slice q46 n47 n48)).setCell { block := w36.heap.size, off := (5 : Nat) } (Value.bool t49)).setCell { block := w36.heap.size, off := (6 : Nat) } (Value.bool t50)).drew.cell? (((a51.add (i24.toNat * (16 : Nat))).add (0 : Nat)).add (5 : Nat)) = some (Value.int IntKind.i64 i61) ∧ ((((((((w36.alloc (Obj.cells #[Value.int IntKind.i64 (0 : Int), Value.slice none (0 : Nat) (0 : Nat), Value.int IntKind.i64 (0 : Int), Value.slice none (0 : Nat) (0 : Nat), Value.slice none (0 : Nat) (0 : Nat), Value.bool false, Value.bool false] (138 : Nat))).setCell { block := w36.heap.size, off := (0 : Nat) } (Value.int IntKind.i64 i38)).setCell { block := w36.heap.size, off := (1 : Nat) } (Value.slice q39 n40 n41)).setCell { block := w36.heap.size, off := (2 : Nat) } (Value.int IntKind.i64 i42)).setCell { block := w36.heap.size, off := (3 : Nat) } (Value.slice q43 n44 n45)).setCell { block := w36.heap.size, off := (4 : Nat) } (Value.slice q46 n47 n48)).setCell { block := w36.heap.size, off := (5 : Nat) } (Value.bool t49)).setCell { block := w36.heap.size, off := (6 : Nat) } (Value.bool t50)).drew.cell? (((a51.add (i24.toNat * (16 : Nat))).add (0 : Nat)).add (6 : Nat)) = some (Value.int IntKind.u8 i62) ∧ True) ∧ (Known ((((((((w36.alloc (Obj.cells #[Value.int IntKind.i64 (0 : Int), Value.slice none (0 : Nat) (0 : Nat), Value.int IntKind.i64 (0 : Int), Value.slice none (0 : Nat) (0 : Nat), Value.slice none (0 : Nat) (0 : Nat), Value.bool false, Value.bool false] (138 : Nat))).setCell { block := w36.heap.size, off := (0 : Nat) } (Value.int IntKind.i64 i38)).setCell { block := w36.heap.size, off := (1 : Nat) } (Value.slice q39 n40 n41)).setCell { block := w36.heap.size, off := (2 : Nat) } (Value.int IntKind.i64 i42)).setCell { block := w36.heap.size, off := (3 : Nat) } (Value.slice q43 n44 n45)).setCell { block := w36.heap.size, off := (4 : Nat) } (Value.slice q46 n47 n48)).setCell { block := w36.heap.size, off := (5 : Nat) } (Value.bool t49)).setCell { block := w36.heap.size, off := (6 : Nat) } (Value.bool t50)).drew [(w10.heap.size, [((0 : Nat), Value.slice q25 n26 n27), ((1 : Nat), Value.bool t28), ((2 : Nat), Value.bool t29), ((3 : Nat), Value.bool t30), ((4 : Nat), Value.slice q31 n32 n33), ((5 : Nat), Value.string s34), ((6 : Nat), Value.string s35)]), (w36.heap.size, [((0 : Nat), Value.int IntKind.i64 i38), ((1 : Nat), Value.slice q39 n40 n41), ((2 : Nat), Value.int IntKind.i64 i42), ((3 : Nat), Value.slice q43 n44 n45), ((4 : Nat), Value.slice q46 n47 n48), ((5 : Nat), Value.bool t49), ((6 : Nat), Value.bool t50)])] →
 Rets Tryd.prog (99 : Nat) #[Value.agg #[Value.slice q25 n26 n27, Value.bool t28, Value.bool t29, Value.bool t30, Value.slice q31 n32 n33, Value.string s34, Value.string s35], Value.agg #[Value.int IntKind.i64 i52, Value.string s53, Value.slice q54 n55 n56, Value.int IntKind.i64 i57, Value.slice q58 n59 n60, Value.int IntKind.i64 i61, Value.int IntKind.u8 i62], Value.agg #[Value.int IntKind.i64 i38, Value.slice q39 n40 n41, Value.int IntKind.i64 i42, Value.slice q43 n44 n45, Value.slice q46 n47 n48, Value.bool t49, Value.bool t50]] ((((((((w36.alloc (Obj.cells #[Value.int IntKind.i64 (0 : Int), Value.slice none (0 : Nat) (0 : Nat), Value.int IntKind.i64 (0 : Int), Value.slice none (0 : Nat) (0 : Nat), Value.slice none (0 : Nat) (0 : Nat), Value.bool false, Value.bool false] (138 : Nat))).setCell { block := w36.heap.size, off := (0 : Nat) } (Value.int IntKind.i64 i38)).setCell { block := w36.heap.size, off := (1 : Nat) } (Value.slice q39 n40 n41)).setCell { block := w36.heap.size, off := (2 : Nat) } (Value.int IntKind.i64 i42)).setCell { block := w36.heap.size, off := (3 : Nat) } (Value.slice q43 n44 n45)).setCell { block := w36.heap.size, off := (4 : Nat) } (Value.slice q46 n47 n48)).setCell { block := w36.heap.size, off := (5 : Nat) } (Value.bool t49)).setCell { block := w36.heap.size, off := (6 : Nat) } (Value.bool t50)).drew fun (v63 : Value) (w64 : World) => ∃ (t65 : Bool), v63 = Value.bool t65 ∧ Keeps ((((((((w36.alloc (Obj.cells #[Value.int IntKind.i64 (0 : Int), Value.slice none (0 : Nat) (0 : Nat), Value.int IntKind.i64 (0 : Int), Value.slice none (0 : Nat) (0 : Nat), Value.slice none (0 : Nat) (0 : Nat), Value.bool false, Value.bool false] (138 : Nat))).setCell { block := w36.heap.size, off := (0 : Nat) } (Value.int IntKind.i64 i38)).setCell { block := w36.heap.size, off := (1 : Nat) } (Value.slice q39 n40 n41)).setCell { block := w36.heap.size, off := (2 : Nat) } (Value.int IntKind.i64 i42)).setCell { block := w36.heap.size, off := (3 : Nat) } (Value.slice q43 n44 n45)).setCell { block := w36.heap.size, off := (4 : Nat) } (Value.slice q46 n47 n48)).setCell { block := w36.heap.size, off := (5 : Nat) } (Value.bool t49)).setCell { block := w36.heap.size, off := (6 : Nat) } (Value.bool t50)).drew w64 [w10.heap.size, w36.heap.size] ∧ ((0 : Int) ≤ i24 ∧ i24 < (↑n0 : Int)) ∧ SX.Ptr p0 fun (a66 : Addr) => ∃ (i67 : Int), ∃ (s68 : ByteArray), ∃ (q69 : Option Addr), ∃ (n70 : Nat), ∃ (n71 : Nat), ∃ (i72 : Int), ∃ (q73 : Option Addr), ∃ (n74 : Nat), ∃ (n75 : Nat), ∃ (i76 : Int), ∃ (i77 : Int), (w64.drew.cell? (((a66.add (i24.toNat * (16 : Nat))).add (0 : Nat)).add (0 : Nat)) = some (Value.int IntKind.i64 i67) ∧ w64.drew.cell? (((a66.add (i24.toNat * (16 : Nat))).add (0 : Nat)).add (1 : Nat)) = some (Value.string s68) ∧ w64.drew.cell? (((a66.add (i24.toNat * (16 : Nat))).add (0 : Nat)).add (2 : Nat)) = some (Value.slice q69 n70 n71) ∧ w64.drew.cell? (((a66.add (i24.toNat * (16 : Nat))).add (0 : Nat)).add (3 : Nat)) = some (Value.int IntKind.i64 i72) ∧ w64.drew.cell? (((a66.add (i24.toNat * (16 : Nat))).add (0 : Nat)).add (4 : Nat)) = some (Value.slice q73 n74 n75) ∧ w64.drew.cell? (((a66.add (i24.toNat * (16 : Nat))).add (0 : Nat)).add (5 : Nat)) = some (Value.int IntKind.i64 i76) ∧ w64.drew.cell? (((a66.add (i24.toNat * (16 : Nat))).add (0 : Nat)).add (6 : Nat)) = some (Value.int IntKind.u8 i77) ∧ True) ∧ ((0 : Int) ≤ i24 ∧ i24 < (↑n0 : Int)) ∧ SX.Ptr p0 fun (a78 : Addr) => ∃ (i79 : Int), ∃ (q80 : Option Addr), ∃ (n81 : Nat), ∃ (n82 : Nat), ∃ (i83 : Int), ∃ (q84 : Option Addr), ∃ (n85 : Nat), ∃ (n86 : Nat), ∃ (q87 : Option Addr), ∃ (n88 : Nat), ∃ (n89 : Nat), ∃ (t90 : Bool), ∃ (t91 : Bool), (w64.drew.cell? (((a78.add (i24.toNat * (16 : Nat))).add (7 : Nat)).add (0 : Nat)) = some (Value.int IntKind.i64 i79) ∧ w64.drew.cell? (((a78.add (i24.toNat * (16 : Nat))).add (7 : Nat)).add (1 : Nat)) = some (Value.slice q80 n81 n82) ∧ w64.drew.cell? (((a78.add (i24.toNat * (16 : Nat))).add (7 : Nat)).add (2 : Nat)) = some (Value.int IntKind.i64 i83) ∧ w64.drew.cell? (((a78.add (i24.toNat * (16 : Nat))).add (7 : Nat)).add (3 : Nat)) = some (Value.slice q84 n85 n86) ∧ w64.drew.cell? (((a78.add (i24.toNat * (16 : Nat))).add (7 : Nat)).add (4 : Nat)) = some (Value.slice q87 n88 n89) ∧ w64.drew.cell? (((a78.add (i24.toNat * (16 : Nat))).add (7 : Nat)).add (5 : Nat)) = some (Value.bool t90) ∧ w64.drew.cell? (((a78.add (i24.toNat * (16 : Nat))).add (7 : Nat)).add (6 : Nat)) = some (Value.bool t91) ∧ True) ∧ (Known w64.drew [(w10.heap.size, [((0 : Nat), Value.slice q25 n26 n27), ((1 : Nat), Value.bool t28), ((2 : Nat), Value.bool t29), ((3 : Nat), Value.bool t30), ((4 : Nat), Value.slice q31 n32 n33), ((5 : Nat), Value.string s34), ((6 : Nat), Value.string s35)]), (w36.heap.size, [((0 : Nat), Value.int IntKind.i64 i38), ((1 : Nat), Value.slice q39 n40 n41), ((2 : Nat), Value.int IntKind.i64 i42), ((3 : Nat), Value.slice q43 n44 n45), ((4 : Nat), Value.slice q46 n47 n48), ((5 : Nat), Value.bool t49), ((6 : Nat), Value.bool t50)])] →
 Rets Tryd.prog (94 : Nat) #[Value.pointer q8, Value.agg #[Value.int IntKind.i64 i67, Value.string s68, Value.slice q69 n70 n71, Value.int IntKind.i64 i72, Value.slice q73 n74 n75, Value.int IntKind.i64 i76, Value.int IntKind.u8 i77], Value.agg #[Value.int IntKind.i64 i79, Value.slice q80 n81 n82, Value.int IntKind.i64 i83, Value.slice q84 n85 n86, Value.slice q87 n88 n89, Value.bool t90, Value.bool t91]] w64.drew fun (v92 : Value) (w93 : World) => ∃ (t94 : Bool), v92 = Value.bool t94 ∧ Keeps w64.drew w93 [w10.heap.size, w36.heap.size] ∧ bif !t94 == t65 then
 Known w93 [(w10.heap.size, [((0 : Nat), Value.slice q25 n26 n27), ((1 : Nat), Value.bool t28), ((2 : Nat), Value.bool t29), ((3 : Nat), Value.bool t30), ((4 : Nat), Value.slice q31 n32 n33), ((5 : Nat), Value.string s34), ((6 : Nat), Value.string s35)]), (w36.heap.size, [((0 : Nat), Value.int IntKind.i64 i38), ((1 : Nat), Value.slice q39 n40 n41), ((2 : Nat), Value.int IntKind.i64 i42), ((3 : Nat), Value.slice q43 n44 n45), ((4 : Nat), Value.slice q46 n47 n48), ((5 : Nat), Value.bool t49), ((6 : Nat), Value.bool t50)])] → R (Ending.returned (Value.bool false)) w93 else
 ∃ (I95 : Option Addr → Nat → Nat → Bool → Bool → Bool → Option Addr → Nat → Nat → ByteArray → ByteArray → World → Prop), (∀ (q96 : Option Addr) (n97 n98 : Nat) (t99 t100 t101 : Bool) (q102 : Option Addr) (n103 n104 : Nat) (s105 s106 : ByteArray) (w107 : World), I95 q96 n97 n98 t99 t100 t101 q102 n103 n104 s105 s106 w107 → Known w107 [(w10.heap.size, [((0 : Nat), Value.slice q96 n97 n98), ((1 : Nat), Value.bool t99), ((2 : Nat), Value.bool t100), ((3 : Nat), Value.bool t101), ((4 : Nat), Value.slice q102 n103 n104), ((5 : Nat), Value.string s105), ((6 : Nat), Value.string s106)]), (w36.heap.size, [((0 : Nat), Value.int IntKind.i64 i38), ((1 : Nat), Value.slice q39 n40 n41), ((2 : Nat), Value.int IntKind.i64 i42), ((3 : Nat), Value.slice q43 n44 n45), ((4 : Nat), Value.slice q46 n47 n48), ((5 : Nat), Value.bool t49), ((6 : Nat), Value.bool t50)])] → Known w107 [(w10.heap.size, [((0 : Nat), Value.slice q96 n97 n98), ((1 : Nat), Value.bool t99), ((2 : Nat), Value.bool t100), ((3 : Nat), Value.bool t101), ((4 : Nat), Value.slice q102 n103 n104), ((5 : Nat), Value.string s105), ((6 : Nat), Value.string s106)]), (w36.heap.size, [((0 : Nat), Value.int IntKind.i64 i38), ((1 : Nat), Value.slice q39 n40 n41), ((2 : Nat), Value.int IntKind.i64 i42), ((3 : Nat), Value.slice q43 n44 n45), ((4 : Nat), Value.slice q46 n47 n48), ((5 : Nat), Value.bool t49), ((6 : Nat), Value.bool t50)])] →
 Rets Tryd.prog (101 : Nat) #[Value.pointer q8] w107 fun (v108 : Value) (w109 : World) => ∃ (q110 : Option Addr), ∃ (n111 : Nat), ∃ (n112 : Nat), ∃ (t113 : Bool), v108 = Value.tuple #[Value.slice q110 n111 n112, Value.bool t113] ∧ Keeps w107 w109 [w10.heap.size, w36.heap.size] ∧ bif !t113 == t99 then
 Known w109.drew [(w10.heap.size, [((0 : Nat), Value.slice q96 n97 n98), ((1 : Nat), Value.bool t99), ((2 : Nat), Value.bool t100), ((3 : Nat), Value.bool t101), ((4 : Nat), Value.slice q102 n103 n104), ((5 : Nat), Value.string s105), ((6 : Nat), Value.string s106)]), (w36.heap.size, [((0 : Nat), Value.int IntKind.i64 i38), ((1 : Nat), Value.slice q39 n40 n41), ((2 : Nat), Value.int IntKind.i64 i42), ((3 : Nat), Value.slice q43 n44 n45), ((4 : Nat), Value.slice q46 n47 n48), ((5 : Nat), Value.bool t49), ((6 : Nat), Value.bool t50)])] → R (Ending.returned (Value.bool false)) w109.drew else
 Known w109.drew [(w10.heap.size, [((0 : Nat), Value.slice q96 n97 n98), ((1 : Nat), Value.bool t99), ((2 : Nat), Value.bool t100), ((3 : Nat), Value.bool t101), ((4 : Nat), Value.slice q102 n103 n104), ((5 : Nat), Value.string s105), ((6 : Nat), Value.string s106)]), (w36.heap.size, [((0 : Nat), Value.int IntKind.i64 i38), ((1 : Nat), Value.slice q39 n40 n41), ((2 : Nat), Value.int IntKind.i64 i42), ((3 : Nat), Value.slice q43 n44 n45), ((4 : Nat), Value.slice q46 n47 n48), ((5 : Nat), Value.bool t49), ((6 : Nat), Value.bool t50)])] →
 Rets Tryd.prog (85 : Nat) #[Value.slice q110 n111 n112, Value.slice q102 n103 n104] w109.drew fun (v114 : Value) (w115 : World) => ∃ (t116 : Bool), v114 = Value.bool t116 ∧ Keeps w109.drew w115 [w10.heap.size, w36.heap.size] ∧ bif !t116 then
 Known w115 [(w10.heap.size, [((0 : Nat), Value.slice q96 n97 n98), ((1 : Nat), Value.bool t99), ((2 : Nat), Value.bool t100), ((3 : Nat), Value.bool t101), ((4 : Nat), Value.slice q102 n103 n104), ((5 : Nat), Value.string s105), ((6 : Nat), Value.string s106)]), (w36.heap.size, [((0 : Nat), Value.int IntKind.i64 i38), ((1 : Nat), Value.slice q39 n40 n41), ((2 : Nat), Value.int IntKind.i64 i42), ((3 : Nat), Value.slice q43 n44 n45), ((4 : Nat), Value.slice q46 n47 n48), ((5 : Nat), Value.bool t49), ((6 : Nat), Value.bool t50)])] → R (Ending.returned (Value.bool false)) w115 else
 ((0 : Int) ≤ i24 ∧ i24 < (↑n0 : Int)) ∧ SX.Ptr p0 fun (a117 : Addr) => ∃ (t118 : Bool), ∃ (q119 : Option Addr), ∃ (n120 : Nat), ∃ (n121 : Nat), (w115.cell? (((a117.add (i24.toNat * (16 : Nat))).add (14 : Nat)).add (0 : Nat)) = some (Value.bool t118) ∧ w115.cell? (((a117.add (i24.toNat * (16 : Nat))).add (14 : Nat)).add (1 : Nat)) = some (Value.slice q119 n120 n121) ∧ True) ∧ ((0 : Int) ≤ i24 ∧ i24 < (↑n0 : Int)) ∧ SX.Ptr p0 fun (a122 : Addr) => ∃ (t123 : Bool), ∃ (q124 : Option Addr), ∃ (n125 : Nat), ∃ (n126 : Nat), (w115.cell? (((a122.add (i24.toNat * (16 : Nat))).add (14 : Nat)).add (0 : Nat)) = some (Value.bool t123) ∧ w115.cell? (((a122.add (i24.toNat * (16 : Nat))).add (14 : Nat)).add (1 : Nat)) = some (Value.slice q124 n125 n126) ∧ True) ∧ (Known w115 [(w10.heap.size, [((0 : Nat), Value.slice q96 n97 n98), ((1 : Nat), Value.bool t99), ((2 : Nat), Value.bool t100), ((3 : Nat), Value.bool t101), ((4 : Nat), Value.slice q102 n103 n104), ((5 : Nat), Value.string s105), ((6 : Nat), Value.string s106)]), (w36.heap.size, [((0 : Nat), Value.int IntKind.i64 i38), ((1 : Nat), Value.slice q39 n40 n41), ((2 : Nat), Value.int IntKind.i64 i42), ((3 : Nat), Value.slice q43 n44 n45), ((4 : Nat), Value.slice q46 n47 n48), ((5 : Nat), Value.bool t49), ((6 : Nat), Value.bool t50)])] →
 Rets Tryd.prog (95 : Nat) #[Value.pointer q8, Value.agg #[Value.bool t118, Value.slice q119 n120 n121]] w115 fun (v127 : Value) (w128 : World) => ∃ (t129 : Bool), v127 = Value.bool t129 ∧ Keeps w115 w128 [w10.heap.size, w36.heap.size] ∧ (w128.cell? (((a122.add (i24.toNat * (16 : Nat))).add (14 : Nat)).add (0 : Nat)) = some (Value.bool t123) ∧ w128.cell? (((a122.add (i24.toNat * (16 : Nat))).add (14 : Nat)).add (1 : Nat)) = some (Value.slice q124 n125 n126) ∧ True) ∧ (w128.cell? (({ block := w10.heap.size, off := (0 : Nat) } : Addr).add (0 : Nat)) = some (Value.slice q96 n97 n98) ∧ w128.cell? (({ block := w10.heap.size, off := (0 : Nat) } : Addr).add (1 : Nat)) = some (Value.bool t99) ∧ w128.cell? (({ block := w10.heap.size, off := (0 : Nat) } : Addr).add (2 : Nat)) = some (Value.bool t100) ∧ w128.cell? (({ block := w10.heap.size, off := (0 : Nat) } : Addr).add (3 : Nat)) = some (Value.bool t101) ∧ w128.cell? (({ block := w10.heap.size, off := (0 : Nat) } : Addr).add (4 : Nat)) = some (Value.slice q102 n103 n104) ∧ w128.cell? (({ block := w10.heap.size, off := (0 : Nat) } : Addr).add (5 : Nat)) = some (Value.string s105) ∧ w128.cell? (({ block := w10.heap.size, off := (0 : Nat) } : Addr).add (6 : Nat)) = some (Value.string s106) ∧ True) ∧ (Known w128 [(w10.heap.size, [((0 : Nat), Value.slice q96 n97 n98), ((1 : Nat), Value.bool t99), ((2 : Nat), Value.bool t100), ((3 : Nat), Value.bool t101), ((4 : Nat), Value.slice q102 n103 n104), ((5 : Nat), Value.string s105), ((6 : Nat), Value.string s106)]), (w36.heap.size, [((0 : Nat), Value.int IntKind.i64 i38), ((1 : Nat), Value.slice q39 n40 n41), ((2 : Nat), Value.int IntKind.i64 i42), ((3 : Nat), Value.slice q43 n44 n45), ((4 : Nat), Value.slice q46 n47 n48), ((5 : Nat), Value.bool t49), ((6 : Nat), Value.bool t50)])] →
 Rets Tryd.prog (102 : Nat) #[Value.agg #[Value.slice q96 n97 n98, Value.bool t99, Value.bool t100, Value.bool t101, Value.slice q102 n103 n104, Value.string s105, Value.string s106], Value.agg #[Value.bool t123, Value.slice q124 n125 n126]] w128 fun (v130 : Value) (w131 : World) => ∃ (t132 : Bool), v130 = Value.bool t132 ∧ Keeps w128 w131 [w10.heap.size, w36.heap.size] ∧ bif !t129 == t132 then
 Known w131 [(w10.heap.size, [((0 : Nat), Value.slice q96 n97 n98), ((1 : Nat), Value.bool t99), ((2 : Nat), Value.bool t100), ((3 : Nat), Value.bool t101), ((4 : Nat), Value.slice q102 n103 n104), ((5 : Nat), Value.string s105), ((6 : Nat), Value.string s106)]), (w36.heap.size, [((0 : Nat), Value.int IntKind.i64 i38), ((1 : Nat), Value.slice q39 n40 n41), ((2 : Nat), Value.int IntKind.i64 i42), ((3 : Nat), Value.slice q43 n44 n45), ((4 : Nat), Value.slice q46 n47 n48), ((5 : Nat), Value.bool t49), ((6 : Nat), Value.bool t50)])] → R (Ending.returned (Value.bool false)) w131 else
 Wr IntKind.i64 (i24 + (1 : Int)) fun (i133 : Int) => I22 i133 q96 n97 n98 t99 t100 t101 q102 n103 n104 s105 s106 w131 ∧ I23 i133 q96 n97 n98 t99 t100 t101 q102 n103 n104 s105 s106 w131 < I23 i24 q25 n26 n27 t28 t29 t30 q31 n32 n33 s34 s35 w36))) ∧ bif t65 then
 ((0 : Int) ≤ i24 ∧ i24 < (↑n0 : Int)) ∧ SX.Ptr p0 fun (a134 : Addr) => ∃ (i135 : Int), ∃ (s136 : ByteArray), ∃ (q137 : Option Addr), ∃ (n138 : Nat), ∃ (n139 : Nat), ∃ (i140 : Int), ∃ (q141 : Option Addr), ∃ (n142 : Nat), ∃ (n143 : Nat), ∃ (i144 : Int), ∃ (i145 : Int), (w93.drew.cell? (((a134.add (i24.toNat * (16 : Nat))).add (0 : Nat)).add (0 : Nat)) = some (Value.int IntKind.i64 i135) ∧ w93.drew.cell? (((a134.add (i24.toNat * (16 : Nat))).add (0 : Nat)).add (1 : Nat)) = some (Value.string s136) ∧ w93.drew.cell? (((a134.add (i24.toNat * (16 : Nat))).add (0 : Nat)).add (2 : Nat)) = some (Value.slice q137 n138 n139) ∧ w93.drew.cell? (((a134.add (i24.toNat * (16 : Nat))).add (0 : Nat)).add (3 : Nat)) = some (Value.int IntKind.i64 i140) ∧ w93.drew.cell? (((a134.add (i24.toNat * (16 : Nat))).add (0 : Nat)).add (4 : Nat)) = some (Value.slice q141 n142 n143) ∧ w93.drew.cell? (((a134.add (i24.toNat * (16 : Nat))).add (0 : Nat)).add (5 : Nat)) = some (Value.int IntKind.i64 i144) ∧ w93.drew.cell? (((a134.add (i24.toNat * (16 : Nat))).add (0 : Nat)).add (6 : Nat)) = some (Value.int IntKind.u8 i145) ∧ True) ∧ (Known w93.drew [(w10.heap.size, [((0 : Nat), Value.slice q25 n26 n27), ((1 : Nat), Value.bool t28), ((2 : Nat), Value.bool t29), ((3 : Nat), Value.bool t30), ((4 : Nat), Value.slice q31 n32 n33), ((5 : Nat), Value.string s34), ((6 : Nat), Value.string s35)]), (w36.heap.size, [((0 : Nat), Value.int IntKind.i64 i38), ((1 : Nat), Value.slice q39 n40 n41), ((2 : Nat), Value.int IntKind.i64 i42), ((3 : Nat), Value.slice q43 n44 n45), ((4 : Nat), Value.slice q46 n47 n48), ((5 : Nat), Value.bool t49), ((6 : Nat), Value.bool t50)])] →
 Rets Tryd.prog (100 : Nat) #[Value.agg #[Value.slice q25 n26 n27, Value.bool t28, Value.bool t29, Value.bool t30, Value.slice q31 n32 n33, Value.string s34, Value.string s35], Value.agg #[Value.int IntKind.i64 i135, Value.string s136, Value.slice q137 n138 n139, Value.int IntKind.i64 i140, Value.slice q141 n142 n143, Value.int IntKind.i64 i144, Value.int IntKind.u8 i145], Value.agg #[Value.int IntKind.i64 i38, Value.slice q39 n40 n41, Value.int IntKind.i64 i42, Value.slice q43 n44 n45, Value.slice q46 n47 n48, Value.bool t49, Value.bool t50]] w93.drew fun (v146 : Value) (w147 : World) => ∃ (q148 : Option Addr), ∃ (n149 : Nat), ∃ (n150 : Nat), ∃ (t151 : Bool), ∃ (t152 : Bool), ∃ (t153 : Bool), ∃ (q154 : Option Addr), ∃ (n155 : Nat), ∃ (n156 : Nat), ∃ (s157 : ByteArray), ∃ (s158 : ByteArray), v146 = Value.agg #[Value.slice q148 n149 n150, Value.bool t151, Value.bool t152, Value.bool t153, Value.slice q154 n155 n156, Value.string s157, Value.string s158] ∧ Keeps w93.drew w147 [w10.heap.size, w36.heap.size] ∧ SameVals [Value.int IntKind.i64 i38, Value.slice q39 n40 n41, Value.int IntKind.i64 i42, Value.slice q43 n44 n45, Value.slice q46 n47 n48, Value.bool t49, Value.bool t50] [Value.int IntKind.i64 i38, Value.slice q39 n40 n41, Value.int IntKind.i64 i42, Value.slice q43 n44 n45, Value.slice q46 n47 n48, Value.bool t49, Value.bool t50] ∧ I95 q148 n149 n150 t151 t152 t153 q154 n155 n156 s157 s158 (((((((w147.setCell { block := w10.heap.size, off := (0 : Nat) } (Value.slice q148 n149 n150)).setCell { block := w10.heap.size, off := (1 : Nat) } (Value.bool t151)).setCell { block := w10.heap.size, off := (2 : Nat) } (Value.bool t152)).setCell { block := w10.heap.size, off := (3 : Nat) } (Value.bool t153)).setCell { block := w10.heap.size, off := (4 : Nat) } (Value.slice q154 n155 n156)).setCell { block := w10.heap.size, off := (5 : Nat) } (Value.string s157)).setCell { block := w10.heap.size, off := (6 : Nat) } (Value.string s158))) else
 SameVals [Value.int IntKind.i64 i38, Value.slice q39 n40 n41, Value.int IntKind.i64 i42, Value.slice q43 n44 n45, Value.slice q46 n47 n48, Value.bool t49, Value.bool t50] [Value.int IntKind.i64 i38, Value.slice q39 n40 n41, Value.int IntKind.i64 i42, Value.slice q43 n44 n45, Value.slice q46 n47 n48, Value.bool t49, Value.bool t50] ∧ I95 q25 n26 n27 t28 t29 t30 q31 n32 n33 s34 s35 w93)) else
 Known w36 [(w10.heap.size, [((0 : Nat), Value.slice q25 n26 n27), ((1 : Nat), Value.bool t28), ((2 : Nat), Value.bool t29), ((3 : Nat), Value.bool t30), ((4 : Nat), Value.slice q31 n32 n33), ((5 : Nat), Value.string s34), ((6 : Nat), Value.string s35)])] →
 Rets Tryd.prog (83 : Nat) #[] w36 fun (v159 : Value) (w160 : World) => ∃ (t161 : Bool), v159 = Value.bool t161 ∧ Keeps w36 w160 [w10.heap.size] ∧ (Known w160 [(w10.heap.size, [((0 : Nat), Value.slice q25 n26 n27), ((1 : Nat), Value.bool t28), ((2 : Nat), Value.bool t29), ((3 : Nat), Value.bool t30), ((4 : Nat), Value.slice q31 n32 n33), ((5 : Nat), Value.string s34), ((6 : Nat), Value.string s35)])] → R (Ending.returned (Value.bool t161)) w160)
theorem vcTryd23 (p0 : Option Addr) (n0 c0 : Nat) (w : World) (R : Ending → World → Prop) : SX.vcFn Tryd.prog [(1000016, ⟨[], [0, 4, 3, 5], [(0, 0, .slice), (0, 1, .bool), (0, 2, .bool), (0, 3, .bool), (0, 4, .slice), (0, 5, .str), (0, 6, .str)]⟩), (8, ⟨[(5, .int .i64)], [3, 4, 0], [(0, 0, .slice), (0, 1, .bool), (0, 2, .bool), (0, 3, .bool), (0, 4, .slice), (0, 5, .str), (0, 6, .str)]⟩)] Tryd.f23 [.v (.slice p0 n0 c0)] [] w R =
 VCTryd23 p0 n0 c0 w  R := by kernel_rfl
end Go.Proofs.YtbpknjldphckgaaDoor

namespace Go.Proofs.YtbpknjldphckgaaDoor
open Go Go.SX Go.Proofs Go.Lib
set_option maxRecDepth 100000
set_option linter.unusedVariables false
set_option linter.unusedSimpArgs false
theorem laidS7 (w : World) (c : Array Value) (t : TypeId) (v0 v1 v2 v3 v4 v5 v6 : Value) : Kp none_ w ((((((((w.alloc (.cells c t)).setCell ⟨w.heap.size, 0, none⟩ v0).setCell ⟨w.heap.size, 1, none⟩ v1).setCell ⟨w.heap.size, 2, none⟩ v2).setCell ⟨w.heap.size, 3, none⟩ v3).setCell ⟨w.heap.size, 4, none⟩ v4).setCell ⟨w.heap.size, 5, none⟩ v5).setCell ⟨w.heap.size, 6, none⟩ v6) ∧
    ((((((((w.alloc (.cells c t)).setCell ⟨w.heap.size, 0, none⟩ v0).setCell ⟨w.heap.size, 1, none⟩ v1).setCell ⟨w.heap.size, 2, none⟩ v2).setCell ⟨w.heap.size, 3, none⟩ v3).setCell ⟨w.heap.size, 4, none⟩ v4).setCell ⟨w.heap.size, 5, none⟩ v5).setCell ⟨w.heap.size, 6, none⟩ v6).heap.size = w.heap.size + 1 := by
  refine ⟨?_, by simp [set_size, alloc_size]⟩
  have ka : Kp (fun i => w.heap.size ≤ i) w (w.alloc (.cells c t)) := (Kp.refl _ w).alloc1 _
  exact (seven ka (Nat.le_refl _) _ _ _ _ _ _ _).narrow (Nat.le_refl _)
theorem c98 (w : World) : Rets Tryd.prog 98 #[] w fun v w' => ∃ x : Dx, v = dV x ∧ x.m = newM ∧ DIn w' (fun i => w.heap.size ≤ i) x ∧ Kp none_ w w' := by
  refine ent [] Tryd.func98 ((vcTryd98 w _).mpr ?_)
  unfold VCTryd98
  intro _
  obtain ⟨ka, za⟩ := laidK w #[.slice none 0 0, .bool false, .bool false, .bool false, .slice none 0 0, .string { data := #[] }, .string { data := #[] }] 136
  generalize w.alloc _ = W1 at *
  obtain ⟨kb, zb, Bb⟩ := laidB W1 #[.bool false, .slice none 0 0] 146
  generalize W1.alloc _ = W2 at *
  have k7 : Kp (one_ w.heap.size) W2 (((((((W2.setCell ⟨w.heap.size, 0, none⟩ (.slice (some ⟨W1.heap.size, 0, none⟩) 1 1)).setCell ⟨w.heap.size, 1, none⟩ (.bool false)).setCell ⟨w.heap.size, 2, none⟩ (.bool false)).setCell ⟨w.heap.size, 3, none⟩ (.bool false)).setCell ⟨w.heap.size, 4, none⟩ (.slice none 0 0)).setCell ⟨w.heap.size, 5, none⟩ (.string { data := #[] })).setCell ⟨w.heap.size, 6, none⟩ (.string { data := #[] })) := seven (T := one_ w.heap.size) (Kp.refl _ W2) (rfl : w.heap.size = w.heap.size) _ _ _ _ _ _ _
  refine ⟨_, rfl, ⟨newM, some ⟨W1.heap.size, 0, none⟩, 1, none, 0⟩, rfl, rfl, ⟨?_, FIn.nil _ _ _⟩, ?_⟩
  · refine SIn.one false (c := 0) (FIn.nil _ _ none) (k7.cell (by rw [Bb.cell]; rfl) ?_) (k7.cell (by rw [Bb.cell]; rfl) ?_) (by show w.heap.size ≤ W1.heap.size; omega)
    all_goals
      intro h
      have h : W1.heap.size = w.heap.size := h
      omega
  · exact (((ka.trans kb).wide (S := fun i => w.heap.size ≤ i)).trans (k7.mono fun i _ hi => by have hi : i = w.heap.size := hi; omega)).narrow (Nat.le_refl _)
theorem ml_posk {w : World} (h : ML w) : 0 < w.heap.size := by
  first | exact ml_pos h | (obtain ⟨_, hh⟩ := h; exact Nat.lt_of_le_of_lt (Nat.zero_le _) (cell_lt hh))
theorem c23 {w0 : World} (hml : ML w0) (h00 : 0 < w0.heap.size) {q : Option Addr} {c : Nat} {l : List Mvv} (h : RowsAt w0 16 mvC q l) (hl : ∀ x ∈ l, MvAt w0 x) (hm : l.length ≤ maxLen) : Rets Tryd.prog 23 #[.slice q l.length c] w0 fun v w' => v = .bool true ∧ Kp none_ w0 w' := by
  refine ent [_] Tryd.func23 ((vcTryd23 _ _ _ w0 _).mpr ?_)
  unfold VCTryd23
  let G : Nat → Prop := fun i => w0.heap.size ≤ i
  have nr : ∀ {w' : World}, Kp G w0 w' → Kp none_ w0 w' := fun k => k.narrow (Nat.le_refl _)
  have lives : ∀ {w' : World} {bs : List Nat} {P : World → Prop}, Kp G w0 w' → (∀ b ∈ bs, b < w'.heap.size) → Rets Tryd.prog 83 #[] w' fun v w2 => ∃ t : Bool, v = .bool t ∧ Keeps w' w2 bs ∧ (P w2 → ∃ v, Ending.returned (.bool t) = Ending.returned v ∧ v = .bool true ∧ Kp none_ w0 w2) := fun {w' bs P} k hb => by
    refine (c83 (hml.kp0 (nr k)) (Nat.lt_of_lt_of_le h00 k.size)).mono ?_
    rintro v w2 ⟨rfl, k2⟩
    exact ⟨_, rfl, k2.keeps fun b hm => ⟨hb b hm, id⟩, fun _ => ⟨_, rfl, rfl, (nr k).trans k2⟩⟩
  refine (c96 h hl hm).mono ?_
  rintro v w1 ⟨e, t, rfl, ht⟩
  obtain rfl := e.symm
  refine ⟨_, rfl, (Kp.refl none_ _).keeps0, bif_b (fun _ => ?_) (fun htf => ?_)⟩
  · refine (lives (bs := []) (P := fun _ => True) (Kp.refl _ _) (fun b hb => by cases hb)).mono ?_
    rintro v w2 ⟨t, h1, h2, h3⟩
    exact ⟨t, h1, h2, h3 trivial⟩
  obtain ⟨hlen, hsm⟩ := ht htf
  refine (c97 w0).mono ?_
  rintro v w1 ⟨rfl, ⟨cm, cn, cd, md⟩, k1, z1⟩
  refine ⟨_, rfl, k1.keeps0, (c98 w1).mono ?_⟩
  rintro v w2 ⟨x0, rfl, hx0, dx0, k2⟩
  have z2 := k2.size
  refine ⟨_, _, _, _, _, _, _, _, _, _, _, rfl, k2.keeps0, bif_b (fun hh => by cases hh) (fun _ => ?_)⟩
  obtain ⟨k3, z3⟩ := laidS7 w2 #[.slice none 0 0, .bool false, .bool false, .bool false, .slice none 0 0, .string { data := #[] }, .string { data := #[] }] 136 (.slice x0.mq x0.m.may.length x0.mc) (.bool x0.m.opn) (.bool x0.m.poisoned) (.bool x0.m.streaming) (.slice x0.wq x0.m.now.length x0.wc) (.string (ba x0.m.name)) (.string (ba x0.m.data))
  generalize (((((((w2.alloc _).setCell _ _).setCell _ _).setCell _ _).setCell _ _).setCell _ _).setCell _ _).setCell _ _ = W3 at *
  let Jn : Nat → Option Addr → Nat → Nat → Bool → Bool → Bool → Option Addr → Nat → Nat → ByteArray → ByteArray → World → Prop := fun n q1 n2 n3 t4 t5 t6 q7 n8 n9 s10 s11 w' => ∃ (x : Dx) (p : MM) (D : Nat → Nat) (cm cn cd : Value), (.agg #[.slice q1 n2 n3, .bool t4, .bool t5, .bool t6, .slice q7 n8 n9, .string s10, .string s11] : Value) = dV x ∧ Bd p x.m n ∧ MD w' D (w0.heap.size + 1) p cm cn cd ∧ (∀ i, D i ≠ 0 → w0.heap.size ≤ i ∧ i < w'.heap.size ∧ i ≠ w2.heap.size) ∧ DIn w' (fun i => D i = 0 ∧ i < w'.heap.size ∧ i ≠ w2.heap.size) x ∧ Kp G w0 w' ∧ w2.heap.size < w'.heap.size
  have inj : ∀ {q1 : Option Addr} {n2 n3 : Nat} {t4 t5 t6 : Bool} {q7 : Option Addr} {n8 n9 : Nat} {s10 s11 : ByteArray} {x : Dx}, (.agg #[.slice q1 n2 n3, .bool t4, .bool t5, .bool t6, .slice q7 n8 n9, .string s10, .string s11] : Value) = dV x → q1 = x.mq ∧ n2 = x.m.may.length ∧ n3 = x.mc ∧ t4 = x.m.opn ∧ t5 = x.m.poisoned ∧ t6 = x.m.streaming ∧ q7 = x.wq ∧ n8 = x.m.now.length ∧ n9 = x.wc ∧ s10 = ba x.m.name ∧ s11 = ba x.m.data := fun e => by
    unfold dV at e
    simp only [Value.agg.injEq, Array.mk.injEq, List.cons.injEq, Value.slice.injEq, Value.bool.injEq, Value.string.injEq, and_true] at e
    obtain ⟨⟨a1, a2, a3⟩, a4, a5, a6, ⟨a7, a8, a9⟩, a10, a11⟩ := e
    exact ⟨a1, a2, a3, a4, a5, a6, a7, a8, a9, a10, a11⟩
  refine ⟨fun i q1 n2 n3 t4 t5 t6 q7 n8 n9 s10 s11 w' => ∃ j : Nat, i = j ∧ j ≤ l.length ∧ Jn j q1 n2 n3 t4 t5 t6 q7 n8 n9 s10 s11 w', fun i _ _ _ _ _ _ _ _ _ _ _ _ => (l.length - i).toNat, ⟨0, rfl, by omega, x0, newM, newD w0.heap.size, cm, cn, cd, rfl, by rw [hx0]; exact bd_new, (md.kp0 k2).kp0 k3, fun i hi => by have := newD_lt hi; omega, dx0.kp k3 fun i hil hi => ⟨id, ?_, by omega, by omega⟩, (k1.trans (k2.trans k3)).wide, by omega⟩, ?_⟩
  · by_cases c0 : newD w0.heap.size i = 0
    · exact c0
    · have := newD_lt c0
      have hi : w1.heap.size ≤ i := hi
      omega
  rintro i q25 n26 n27 t28 t29 t30 q31 n32 n33 s34 s35 w36 ⟨j, rfl, hj, x, p, D, cm, cn, cd, ex, bd, md, hD, dx, K, hX⟩ _
  obtain ⟨rfl, rfl, rfl, rfl, rfl, rfl, rfl, rfl, rfl, rfl, rfl⟩ := inj ex
  have zE := K.size
  refine bif_dec (fun hi => ?_) (fun hi _ => lives K (fun b hb => by simp at hb; omega))
  have hjl : j < l.length := by omega
  have ma := hl _ (List.getElem_mem hjl)
  have ms := hsm _ (List.getElem_mem hjl)
  have ho : ∀ {P : Prop}, P → ((0 : Int) ≤ (j : Int) ∧ (j : Int) < l.length) ∧ P := fun h => ⟨⟨by omega, hi⟩, h⟩
  have row : ∀ {W : World}, Kp G w0 W → RowsAt W 16 mvC q l := fun k => h.kp0 (nr k)
  have hDl : ∀ i, D i ≠ 0 → i < w36.heap.size := fun i hi => (hD i hi).2.1
  have okp := bd.okP (by omega)
  have dok := bd.dok (by omega)
  refine ho (mv_at (row K) hjl fun a1 _ hc => ⟨_, _, _, _, _, _, _, _, _, _, _, _, _, ⟨hc 7 0 _ rfl, hc 7 1 _ rfl, hc 7 2 _ rfl, hc 7 3 _ rfl, hc 7 4 _ rfl, hc 7 5 _ rfl, hc 7 6 _ rfl, trivial⟩, ?_⟩)
  clear hc
  obtain ⟨k7, z7⟩ := laidS7 w36 #[.int .i64 0, .slice none 0 0, .int .i64 0, .slice none 0 0, .slice none 0 0, .bool false, .bool false] 138 (.int .i64 l[j].a.e) (.slice l[j].a.aq l[j].a.d.length l[j].a.ac) (.int .i64 l[j].a.z) (.slice l[j].a.nq l[j].a.n.length l[j].a.nc) (.slice l[j].a.lq l[j].a.L.length l[j].a.lc) (.bool l[j].a.re) (.bool l[j].a.po)
  generalize (((((((w36.alloc _).setCell _ _).setCell _ _).setCell _ _).setCell _ _).setCell _ _).setCell _ _).setCell _ _ = W7 at *
  have k7d : Kp none_ w36 W7.drew := k7.drew
  have K7 : Kp G w0 W7.drew := K.trans k7d.wide
  refine ho (mv_at (row K7) hjl fun a2 _ hc => ⟨_, _, _, _, _, _, _, _, _, _, _, ⟨hc 0 0 _ rfl, hc 0 1 _ rfl, hc 0 2 _ rfl, hc 0 3 _ rfl, hc 0 4 _ rfl, hc 0 5 _ rfl, hc 0 6 _ rfl, trivial⟩, ?_⟩)
  clear hc
  intro _
  -- may it be told?
  let Q : Nat → Prop := fun i => D i = 0 ∧ i < w36.heap.size ∧ i ≠ w2.heap.size
  have fA : ∀ {W : World}, Kp G w0 W → FIn W Q l[j].a.lq l[j].a.L.length l[j].a.L := fun k => ma.a.fil.all.kp (nr k) fun i _ hi => ⟨id, by
    by_cases c0 : D i = 0
    · exact c0
    · have := (hD i c0).1; have hi : i < w0.heap.size := hi; omega, by have hi : i < w0.heap.size := hi; omega, by have hi : i < w0.heap.size := hi; omega⟩
  refine (c99 (Q := Q) x (dx.kp k7d fun i _ hi => ⟨id, hi⟩) dok (fun i hi => by have := hi.2.1; show i < W7.heap.size; omega) l[j].o l[j].a (ma.a.kp0 (nr K7)) (fA K7) ma.lc.1 (by have := ms.an; omega) (by have := ms.al; omega)).mono ?_
  rintro v w64 ⟨rfl, k64⟩
  have k64' : Kp none_ W7 w64 := Kp.of_drew k64
  have z64 := k64'.size
  have K64 : Kp G w0 w64.drew := K7.trans (k64.drew).wide
  refine ⟨_, rfl, k64.keeps (fun b hb => ⟨by simp at hb; show b < W7.heap.size; omega, id⟩), ho (mv_at (row K64) hjl fun a3 _ hc => ⟨_, _, _, _, _, _, _, _, _, _, _, ⟨hc 0 0 _ rfl, hc 0 1 _ rfl, hc 0 2 _ rfl, hc 0 3 _ rfl, hc 0 4 _ rfl, hc 0 5 _ rfl, hc 0 6 _ rfl, trivial⟩, ho (mv_at (row K64) hjl fun a4 _ hc => ⟨_, _, _, _, _, _, _, _, _, _, _, _, _, ⟨hc 7 0 _ rfl, hc 7 1 _ rfl, hc 7 2 _ rfl, hc 7 3 _ rfl, hc 7 4 _ rfl, hc 7 5 _ rfl, hc 7 6 _ rfl, trivial⟩, ?_⟩)⟩)⟩
  intro _
  have kw : Kp none_ w36 w64.drew := k7d.trans k64.drew
  have md65 : MD w64.drew D (w0.heap.size + 1) p cm cn cd := md.kp0 kw
  refine (c94 (hml.kp0 (nr K64)) md65 (fun i hi => by have := hDl i hi; show i < w64.heap.size; omega) okp l[j].o l[j].a (ma.o.kp0 (nr K64)) (by have := ms.od; omega) (by have := ms.os; omega) (ma.a.kp0 (nr K64)) (by have := ms.an; omega) ((fA K64).mono fun i _ hi => hi.1) ⟨by have := ms.al; omega, fun f hf => by have := ms.af f hf; omega⟩).mono ?_
  rw [may_rel bd.rel]
  rintro v w93 ⟨rfl, D2, cm2, cn2, cd2, md2, hD2, k93⟩
  have z93 := k93.size
  have z93 : w64.heap.size ≤ w93.heap.size := z93
  have K93 : Kp G w0 w93 := K64.trans (k93.mono fun i _ hi => (hD i hi).1)
  have D2X : ∀ i, D2 i ≠ 0 → w0.heap.size ≤ i ∧ i < w93.heap.size ∧ i ≠ w2.heap.size := fun i hi => by
    obtain ⟨g1, g2⟩ := hD2 i hi
    rcases g1 with g1 | g1
    · have := hD i g1; omega
    · have g1 : w64.heap.size ≤ i := g1; omega
  have D2Q : ∀ i, Q i → D2 i = 0 := fun i hi => by
    by_cases c0 : D2 i = 0
    · exact c0
    · rcases (hD2 i c0).1 with g1 | g1
      · exact absurd hi.1 g1
      · have g1 : w64.heap.size ≤ i := g1; have := hi.2.1; omega
  have x93 : DIn w93 Q x := (dx.kp kw fun i _ hi => ⟨id, hi⟩).kp k93 fun i _ hi => ⟨fun hh => hh hi.1, hi⟩
  refine ⟨_, rfl, k93.keeps (fun b hb => ⟨by simp at hb; show b < w64.heap.size; omega, fun hh => by
    have := hD b hh
    simp at hb
    omega⟩), bif_not (fun hh => by simp at hh) fun _ => ⟨Jn (j + 1), ?_, ?_⟩⟩
  · -- behind the step: the map, and the state
    rintro q96 n97 n98 t99 t100 t101 q102 n103 n104 s105 s106 w107 ⟨y, p', D', cm', cn', cd', ey, bd', md', hD', dy, K', hX'⟩ hK _
    obtain ⟨rfl, rfl, rfl, rfl, rfl, rfl, rfl, rfl, rfl, rfl, rfl⟩ := inj ey
    have okp' := bd'.okP (by omega)
    have dok' := bd'.dok (by omega)
    have X0 : ∀ {b : Nat}, b ∈ [w2.heap.size, w36.heap.size] → b < w107.heap.size ∧ True := fun hb => ⟨by
      simp at hb
      rcases hb with hb | hb
      · omega
      · have := hK.2.1.1; omega, trivial⟩
    have kb : ∀ {W w' : World}, Kp none_ w107 W → Kp none_ W w' → Keeps W w' [w2.heap.size, w36.heap.size] := fun k k' => k'.keeps fun b hb => ⟨Nat.lt_of_lt_of_le (X0 hb).1 k.size, id⟩
    refine (c101 md'.rd okp').mono ?_
    rintro v w109 ⟨qn, nn, cc, rfl, fn, k109⟩
    have k109d : Kp none_ w107 w109.drew := k109.drew
    refine ⟨_, _, _, _, rfl, kb (Kp.refl _ _) k109, bif_not (fun hh => absurd hh (by rw [bd'.rel.opn]; simp)) fun _ => ?_⟩
    intro _
    have fn' : FRd w109.drew qn nn (if p'.opn = true then p'.now else []) := fn.kp0 ((Kp.refl none_ w109).drew)
    have el : (if p'.opn = true then p'.now else []) = y.m.now := by
      by_cases c0 : p'.opn = true
      · rw [if_pos c0, bd'.rel.now]
      · rw [if_neg c0]
        have : y.m.opn = false := by rw [← bd'.rel.opn]; simpa using c0
        exact (bd'.rel.shut this).2.symm
    rw [el] at fn'
    refine (c85 fn' (dy.now.rd.kp0 k109d) dok'.now).mono ?_
    rintro v w115 ⟨rfl, k115⟩
    have k115w := k109d.trans k115
    have K115 : Kp G w0 w115 := K'.trans k115w.wide
    refine ⟨_, rfl, kb k109d k115, bif_not (fun hh => absurd hh (by simp)) fun _ => ?_⟩
    refine ho (mv_at (row K115) hjl fun a5 _ hc5 => ⟨_, _, _, _, ⟨hc5 14 0 _ rfl, hc5 14 1 _ rfl, trivial⟩, ho (mv_at (row K115) hjl fun a6 _ hc6 => ⟨_, _, _, _, ⟨hc6 14 0 _ rfl, hc6 14 1 _ rfl, trivial⟩, ?_⟩)⟩)
    intro _
    refine (c95 (md'.rd.kp0 k115w) okp' l[j].s (ma.s.kp0 (nr K115))).mono ?_
    rintro v w128 ⟨rfl, k128⟩
    have k128w := k115w.trans k128
    have xc : ∀ o u, w107.cell? ⟨w2.heap.size, o, none⟩ = some u → w128.cell? ((⟨w2.heap.size, 0, none⟩ : Addr).add o) = some u := fun o u hu => by
      rw [ad_add, Nat.zero_add]
      exact k128w.cell0 hu
    have hk := hK.1.2
    refine ⟨_, rfl, kb k115w k128, ⟨k128.cell0 (hc6 14 0 _ rfl), k128.cell0 (hc6 14 1 _ rfl), trivial⟩, ⟨xc 0 _ hk.1.1, xc 1 _ hk.2.1.1, xc 2 _ hk.2.2.1.1, xc 3 _ hk.2.2.2.1.1, xc 4 _ hk.2.2.2.2.1.1, xc 5 _ hk.2.2.2.2.2.1.1, xc 6 _ hk.2.2.2.2.2.2.1.1, trivial⟩, ?_⟩
    intro _
    have K128 : Kp G w0 w128 := K'.trans k128w.wide
    refine (c102 y ((dy.rd dok').kp0 k128w) l[j].s (ma.s.kp0 (nr K128))).mono ?_
    rintro v w131 ⟨rfl, k131⟩
    have k131w := k128w.trans k131
    have ec : canM p' l[j].s.sta = canM y.m l[j].s.sta := by unfold canM; rw [bd'.rel.may]
    have z131 := k131w.size
    refine ⟨_, rfl, kb k128w k131, bif_not (fun hh => absurd hh (by rw [ec]; simp)) fun _ => wr64 (by omega) ⟨⟨j + 1, by omega, by omega, y, p', D', cm', cn', cd', rfl, bd', md'.kp0 k131w, fun i hi => by have := hD' i hi; omega, dy.kp k131w fun i _ hi => ⟨id, hi.1, by have := hi.2.1; omega, hi.2.2⟩, K'.trans k131w.wide, by omega⟩, by first | omega | (dsimp only; omega)⟩⟩
  · -- the step
    refine bif_b (fun hmay => ?_) (fun hmay => ⟨rfl, ?_⟩)
    · rw [if_pos hmay] at md2
      have k93d : Kp none_ w93 w93.drew := (Kp.refl none_ w93).drew
      have K93d : Kp G w0 w93.drew := K93.trans k93d.wide
      refine ho (mv_at (row K93d) hjl fun a7 _ hc => ⟨_, _, _, _, _, _, _, _, _, _, _, ⟨hc 0 0 _ rfl, hc 0 1 _ rfl, hc 0 2 _ rfl, hc 0 3 _ rfl, hc 0 4 _ rfl, hc 0 5 _ rfl, hc 0 6 _ rfl, trivial⟩, ?_⟩)
      intro _
      refine (c100 (Q := Q) x (x93.kp k93d fun i _ hi => ⟨id, hi⟩) dok (fun i hi => by have := hi.2.1; show i < w93.heap.size; omega) l[j].o l[j].a (ma.o.kp0 (nr K93d)) (by have := ms.od; omega) (fA K93d)).mono ?_
      rintro v w147 ⟨z, rfl, hz, dz, k147⟩
      have k147' : Kp none_ w93 w147 := Kp.of_drew k147
      have z147 := k147'.size
      have ks : Kp (one_ w2.heap.size) w147 (((((((w147.setCell ⟨w2.heap.size, 0, none⟩ (.slice z.mq z.m.may.length z.mc)).setCell ⟨w2.heap.size, 1, none⟩ (.bool z.m.opn)).setCell ⟨w2.heap.size, 2, none⟩ (.bool z.m.poisoned)).setCell ⟨w2.heap.size, 3, none⟩ (.bool z.m.streaming)).setCell ⟨w2.heap.size, 4, none⟩ (.slice z.wq z.m.now.length z.wc)).setCell ⟨w2.heap.size, 5, none⟩ (.string (ba z.m.name))).setCell ⟨w2.heap.size, 6, none⟩ (.string (ba z.m.data))) := seven (T := one_ w2.heap.size) (Kp.refl _ w147) (rfl : w2.heap.size = w2.heap.size) _ _ _ _ _ _ _
      refine ⟨_, _, _, _, _, _, _, _, _, _, _, rfl, k147.keeps (fun b hb => ⟨by simp at hb; show b < w93.heap.size; omega, id⟩), rfl, z, stepP p l[j].o.stp l[j].a.ans, D2, cm2, cn2, cd2, rfl, ?_, ?_, ?_, ?_, ?_, ?_⟩
      · rw [hz]
        exact bd.step hmay ms.od
      · exact (md2.kp0 k147').kp ks fun i _ hi he => by have he : i = w2.heap.size := he; exact (D2X i hi).2.2 he
      · intro i hi
        have := D2X i hi
        have := ks.size
        omega
      · refine dz.kp ks fun i hil hi => ⟨fun he => ?_, ?_, ?_, ?_⟩
        · have he : i = w2.heap.size := he
          rcases hi with hi | hi
          · exact hi.2.2 he
          · have hi : w93.heap.size ≤ i := hi; omega
        · rcases hi with hi | hi
          · exact D2Q i hi
          · by_cases c0 : D2 i = 0
            · exact c0
            · have := (D2X i c0).2.1; have hi : w93.heap.size ≤ i := hi; omega
        · have := ks.size; omega
        · rcases hi with hi | hi
          · exact hi.2.2
          · have hi : w93.heap.size ≤ i := hi; omega
      · exact (K93.trans k147'.wide).trans (ks.mono fun i _ hi => by have hi : i = w2.heap.size := hi; show w0.heap.size ≤ i; omega)
      · have := ks.size; omega
    · rw [if_neg (by rw [hmay]; decide)] at md2
      exact ⟨x, p, D2, cm2, cn2, cd2, rfl, bd.up, md2, D2X, x93.kp (Kp.refl none_ _) fun i hil hi => ⟨id, D2Q i hi, hil, hi.2.2⟩, K93, by omega⟩
end Go.Proofs.YtbpknjldphckgaaDoor

namespace Go.Proofs.YtbpknjldphckgaaDoor
open Go Go.SX Go.Proofs Go.ChangeShapes Go.WideShapes Go.ChangeAt Go.ChangeMaps Go.RowKit
set_option maxRecDepth 100000
set_option linter.unusedVariables false
theorem cells140 : Tryd.prog.cellsOf 140 = 16 := by kernel_rfl
theorem und132 : Tryd.prog.underlying 132 = some (.slice 140) := by kernel_rfl
section
variable {H : Type} {enc : TypeId × Value → H} {W : World}
theorem dec_stateL : Dec enc Tryd.prog W 130 (fun x : Stx => [.bool x.t, .slice x.q x.L.length x.c]) (fun x => x.L.length ≤ maxLen ∧ FRd W x.q x.L.length x.L) := fun fuel cs x h => by
  obtain ⟨xs, n, _, _, hcl, hxl, hf⟩ := DataW.trod_struct Tryd.underlying130 h
  rw [cells130] at hcl
  obtain ⟨t, e0, _⟩ := dec_field hf hxl (i := 0) (o := 0) rfl cells4x rfl rfl (dec_bool Tryd.underlying4)
  obtain ⟨d, e1, d1, d2, d3⟩ := dec_field hf hxl (i := 1) (o := 1) rfl cells105 rfl rfl dec_files
  refine ⟨⟨t, d.l.map Fx.fil, d.q, d.c⟩, ?_, by simpa using Nat.le_trans d1.1 d1.2, fil_rd d2 d3⟩
  rw [← List.drop_zero (l := cs), e0, e1, dec_end hcl]
  simp [slC]
theorem dec_answerL : Dec enc Tryd.prog W 126 (fun a : Ax => (anC a).toList) (fun a => (a.L.length ≤ a.lc ∧ a.lc ≤ maxLen) ∧ AnAt W a) := fun fuel cs x h => by
  obtain ⟨xs, n, _, _, hcl, hxl, hf⟩ := DataW.trod_struct Tryd.underlying126 h
  rw [cells126] at hcl
  obtain ⟨k, e0, _⟩ := dec_field hf hxl (i := 0) (o := 0) rfl cells28x rfl rfl (dec_int Tryd.underlying28)
  obtain ⟨d, e1, d1, d2⟩ := dec_field hf hxl (i := 1) (o := 1) rfl cells27x rfl rfl dec_bytes
  obtain ⟨z, e2, _⟩ := dec_field hf hxl (i := 2) (o := 2) rfl cells3x rfl rfl (dec_int Tryd.underlying3)
  obtain ⟨s, e3, s1, s2⟩ := dec_field hf hxl (i := 3) (o := 3) rfl cells46 rfl rfl dec_strs
  obtain ⟨f, e4, f1, f2, f3⟩ := dec_field hf hxl (i := 4) (o := 4) rfl cells105 rfl rfl dec_files
  obtain ⟨r, e5, _⟩ := dec_field hf hxl (i := 5) (o := 5) rfl cells4x rfl rfl (dec_bool Tryd.underlying4)
  obtain ⟨p, e6, _⟩ := dec_field hf hxl (i := 6) (o := 6) rfl cells4x rfl rfl (dec_bool Tryd.underlying4)
  refine ⟨⟨k, d.l, d.q, d.c, z, s.l, s.q, s.c, f.l.map Fx.fil, f.q, f.c, r, p⟩, ?_, by simpa using f1, d2, d1, s2, fil_rd f2 f3⟩
  rw [← List.drop_zero (l := cs), e0, e1, e2, e3, e4, e5, e6, dec_end hcl]
  simp [slC, anC]
theorem dec_move : Dec enc Tryd.prog W 140 mvC (fun x => MvAt W x) := fun fuel cs x h => by
  obtain ⟨xs, n, _, _, hcl, hxl, hf⟩ := DataW.trod_struct Tryd.underlying140 h
  rw [cells140] at hcl
  obtain ⟨o, e0, ho⟩ := dec_field hf hxl (i := 0) (o := 0) rfl cells124 rfl rfl dec_op
  obtain ⟨a, e1, a1, ha⟩ := dec_field hf hxl (i := 1) (o := 7) rfl cells126 rfl rfl dec_answerL
  obtain ⟨s, e2, s1, hs⟩ := dec_field hf hxl (i := 2) (o := 14) rfl cells130 rfl rfl dec_stateL
  refine ⟨⟨o, a, s⟩, ?_, ho, ha, hs, a1, s1⟩
  rw [← List.drop_zero (l := cs), e0, e1, e2, dec_end hcl]
  simp [opC, anC, mvC]
theorem open_moves {v : Value} {d : DataW H} {ps : List MemPlace} {r : Reach} {b0 : Nat} (hval : Value.okWide Tryd.prog W r b0 132 v) (h : DataW.Trod enc Tryd.prog W 0 (fun _ => true) true 132 v d ps) : ∃ (q : Option Addr) (c : Nat) (l : List Mvv), v = .slice q l.length c ∧ RowsAt W 16 mvC q l ∧ (∀ x ∈ l, MvAt W x) ∧ l.length ≤ maxLen := by
  obtain ⟨a0, len, cap, rfl⟩ := okWide_slice und132 hval
  obtain ⟨fuel, hf⟩ := h
  obtain ⟨q, c, l, hcs, h1, h2, h3, h4⟩ := dec_rows und132 cells140 dec_move hf
  simp only [Value.cells, List.cons.injEq, and_true] at hcs
  exact ⟨q, c, l, hcs, h3, h4, Nat.le_trans h1 h2⟩
end
end Go.Proofs.YtbpknjldphckgaaDoor

